/- Contracts: the reference reads the events of an execution. Contracts: the reference on how each location's writes are placed. Contracts: the reference on what is well-formed. Contracts: executions of very many events are not well-formed. Contracts: law 9's awake. The law: Right and Same agree with their definitions (CandRight). Readings opened: the parts of any reading, and the sizes. Readings opened: relations, executions. What the size of a reading says of the length of an execution. Small facts of executions for the laws of the models. The condition of a row gives what the walks need of a world; a world that meets it. -/
import Derived.Test.YtmbghmhjjodgmaaGreatDoorT6
import Derived.Test.YtmbghmhjjodgmaaGreatDoorT2
import Derived.Test.YtmbghmhjjodgmaaGreatDoorRows
import Derived.ProofKit
import Derived.OpenShut
import Derived.LaidLaws
import Derived.Below
import Derived.HandedShaped
import Derived.KernelRfl
import Derived.WalkKit
import Derived.ChangeOld
import Derived.SevenTiedAt
import Derived.LaidHandle
import Derived.Stop.LaidErr
import Derived.Lib.LaidTab
import Derived.SizedLaws
import Derived.Test.YtmbghmhjjodgmaaGreatDoorT4
import Derived.Test.YtmbghmhjjodgmaaGreatDoorT5
set_option linter.unusedSimpArgs false
set_option linter.unusedVariables false
namespace Go.Proofs.YtmbghmhjjodgmaaGreatDoor
open Go.Vc Go.RowKit Go.Sei
theorem zkn (u:Nat):IntKind.u8.wrap (u:Int)=((UInt8.ofNat u).toNat:Int):=by
 have:=UInt8.toNat_ofNat' (n:=u)
 simp [IntKind.wrap,IntKind.bits,IntKind.signed] at this ⊢
 try omega
theorem zln {ev:List Ev} {k:Nat} (hk:k<ev.length):hdGo k (ev.drop k)=if (ev.getD k ev0).th = -1 then (if ev.getD k ev0=⟨-1,2,UInt8.ofNat k,(ev.getD k ev0).v,0,0,0⟩ then hdGo (k+1) (ev.drop (k+1)) else none) else some k:=by
 have e:ev.drop k=ev.getD k ev0::ev.drop (k+1):=by
  rw [List.getD_eq_getElem?_getD,List.getElem?_eq_getElem hk]
  exact (List.getElem_cons_drop hk).symm
 rw [e];rfl
theorem zmU (ev:List Ev):hdGo ev.length (ev.drop ev.length)=some ev.length:=by
 rw [List.drop_length];rfl
theorem zfq {ev:List Ev} {l:Nat} (h:hdGo 0 ev=some l) (hb:l<1∨6<l∨48<ev.length):zbm ev=none:=by
 unfold zbm
 rw [h]
 exact if_pos hb
theorem zj3 {ev:List Ev} {l j:Nat} (h:hdGo 0 ev=some l) (hj:j<ev.length-l) (hb:zdi ev l j=false):zbm ev=none:=by
 unfold zbm
 rw [h]
 dsimp only
 split
 ·rfl
 ·rw [if_neg]
  intro ha
  rw [List.all_eq_true] at ha
  have:=ha j (List.mem_range.2 hj)
  rw [hb] at this
  cases this
theorem zj1 {ev:List Ev} {l:Nat} (h:hdGo 0 ev=some l) (hb:¬ (l<1∨6<l∨48<ev.length)) (ha:∀ j,j<ev.length-l→zdi ev l j=true):zbm ev=some l:=by
 unfold zbm
 rw [h]
 dsimp only
 rw [if_neg hb,if_pos]
 rw [List.all_eq_true]
 exact fun j hj=>ha j (List.mem_range.1 hj)
theorem zhS {x:UInt8} {n:Nat} (h:n<256):x=UInt8.ofNat n↔x.toNat=n:=by
 rw [← UInt8.toNat_inj,UInt8.toNat_ofNat',Nat.mod_eq_of_lt h]
theorem zlh {e:Ev} {k:Nat}:zfm e k=true↔1≤e.k.toNat∧e.k.toNat≤3∧(e.k.toNat=3→e.l.toNat=0∧e.v.toNat=0)∧(e.k.toNat<3→e.l.toNat<k):=by
 have h3:e.k=3↔e.k.toNat=3:=zhS (n:=3) (by decide)
 have hl:e.l=0↔e.l.toNat=0:=zhS (n:=0) (by decide)
 have hv:e.v=0↔e.v.toNat=0:=zhS (n:=0) (by decide)
 unfold zfm
 simp only [Bool.and_eq_true,Bool.or_eq_true,Bool.not_eq_true',decide_eq_true_eq,decide_eq_false_iff_not,h3,hl,hv]
 omega
def zew (ev:List Ev):Value:=match zbm ev with
 | none=>i64 (-1)
 | some l=>i64 (l:Nat)
theorem zhE {ev:List Ev} {q:Option Addr} {X:World} (hv:SlR evE X q ev) (h:0<ev.length):∃ bq oq,q=some ⟨bq,oq,none⟩∧bq<X.heap.size∧∀ i,i<ev.length→zau X ⟨bq,oq+i*7,none⟩ (evE.enc (ev.getD i ev0)):=by
 obtain⟨b,o,hq,hb,hat⟩:=hv.at h
 refine⟨b,o,hq,hb,fun i hi=>?_⟩
 have:=hat i hi
 rw [List.getD_eq_getElem?_getD,List.getElem?_eq_getElem hi]
 exact this
section
variable {w:World} {c:Nat} {ev:List Ev} {q:Option Addr}
theorem zjb (hv:SlR evE w q ev) (hmax:ev.length<4611686018427387904):Calls Tryz.prog 45 #[.slice q ev.length c] w fun e w'=>e = .returned (zew ev)∧Below w.heap.size w w':=by
 refine zal (S:=sg 134) (sgOk _) (args:=[.slice q ev.length c]) (.c .p (.c .p (.c .p (.c .p .p)))) Tryz.func45 rfl rfl (Nat.le_of_ble_eq_true rfl) rfl ?_
 have ret:∀ {X:World},Below w.heap.size w X→zbm ev=none→(Ending.returned (i64 (-1))=Ending.returned (zew ev)∧Below w.heap.size w X):=fun {X} hb h=>⟨by unfold zew;rw [h],hb⟩
 refine⟨Unit,fun _=>⟨[(0,.slice q ev.length c)],[]⟩,fun _ X=>w=X,⟨(),(cvE rfl rfl),rfl⟩,?_⟩
 rintro _ _ rfl
 refine⟨Unit,fun _=>⟨[(0,.slice q ev.length c),(3,i64 (0:Nat))],[]⟩,fun _ X=>w=X,⟨(),(cvE rfl rfl),rfl⟩,?_⟩
 rintro _ _ rfl
 refine⟨Nat,fun k=>⟨[(0,.slice q ev.length c),(3,i64 (k:Nat))],[]⟩,fun k X=>k≤ev.length∧hdGo 0 ev=some k∧Below w.heap.size w X,?_,?_⟩
 ·refine⟨Nat,fun k=>⟨[(0,.slice q ev.length c),(3,i64 (k:Nat))],[]⟩,fun k X=>k≤ev.length∧hdGo 0 ev=hdGo k (ev.drop k)∧Below w.heap.size w X,fun k=>ev.length-k,0,(cvE rfl rfl),⟨Nat.zero_le _,by rw [List.drop_zero],Below.refl _ _⟩,?_⟩
  rintro k X ⟨hk,hg,hbX⟩
  dsimp only
  refine biE (fun hc=>?_) fun hc=>?_
  ·have hc:(k:Int)<(ev.length:Int):=of_decide_eq_true hc
   have hkl:k<ev.length:=by omega
   obtain⟨bq,oq,hqe,hbq,hat⟩:=zhE hv (by omega)
   subst hqe
   obtain⟨e,he⟩:=nm (ev.getD k ev0)
   have hatk:=hat k hkl
   have hst:=zln hkl
   rw [← he] at hatk hst
   refine⟨k,rfl,hkl,?_⟩
   refine⟨i64 e.th,by have:=zac (zag hbX hatk) (i:=0) (v:=i64 e.th) rfl;exact this,?_⟩
   refine biE (fun h1=>?_) fun h1=>?_
   ·have h1:e.th = -1:=of_decide_eq_true h1
    rw [if_pos h1] at hst
    have dX:Below X.heap.size X X.drew:=(Below.refl _ _).drew
    have hbD:=hbX.trans (dX.mono hbX.size)
    refine DrawE.ord [] [0,1,2,3,4,5,6,7,8,9,10,11,12] (by kernel_rfl) ?_
    refine⟨k,rfl,hkl,?_⟩
    refine⟨evE.enc e,rfl,zag hbD hatk,Nat.lt_of_lt_of_le hbq hbD.size,?_⟩
    refine⟨((UInt8.ofNat k).toNat:Int),zkn k,?_⟩
    refine⟨k,rfl,hkl,?_⟩
    refine⟨u8 e.v,by have:=zac (zag hbD hatk) (i:=3) (v:=u8 e.v) rfl;exact this,?_⟩
    refine⟨evE.enc ⟨-1,2,UInt8.ofNat k,e.v,0,0,0⟩,by kernel_rfl,?_⟩
    refine⟨_,fun w=>zi4 _ _ e ⟨-1,2,UInt8.ofNat k,e.v,0,0,0⟩ w,?_⟩
    refine biE (fun h2=>?_) fun h2=>?_
    ·have h2:¬ e=⟨-1,2,UInt8.ofNat k,e.v,0,0,0⟩:=of_decide_eq_false (notB h2)
     rw [if_neg h2] at hst
     exact ret hbD (by unfold zbm;rw [hg,hst])
    ·have h2:e=⟨-1,2,UInt8.ofNat k,e.v,0,0,0⟩:=of_decide_eq_true (notF h2)
     rw [if_pos h2] at hst
     refine⟨((k+1:Nat):Int),(zad (by omega)).trans (by omega),?_⟩
     exact⟨k+1,(cvE rfl rfl),⟨hkl,hg.trans hst,hbD⟩,by show ev.length-(k+1)<ev.length-k;omega⟩
   ·have h1:¬ e.th = -1:=of_decide_eq_false h1
    rw [if_neg h1] at hst
    exact⟨k,(cvE rfl rfl),hk,hg.trans hst,hbX⟩
  ·have hc:¬ (k:Int)<(ev.length:Int):=of_decide_eq_false hc
   obtain rfl:k=ev.length:=by omega
   refine brF ?_
   exact⟨ev.length,(cvE rfl rfl),hk,hg.trans (zmU ev),hbX⟩
 rintro k X ⟨hk,hg,hbX⟩
 refine⟨Unit,fun _=>⟨[(0,.slice q ev.length c),(3,i64 (k:Nat))],[]⟩,fun _ Y=>(1≤k∧k≤6∧ev.length≤48)∧X=Y,?_,?_⟩
 ·refine biE (fun h1=>?_) fun h1=>?_
  ·have h1:(k:Int)<1:=of_decide_eq_true h1
   refine brT ?_
   refine brT ?_
   exact ret hbX (zfq hg (by omega))
  have h1:¬ (k:Int)<1:=of_decide_eq_false h1
  refine biE (fun h2=>?_) fun h2=>?_
  ·have h2:(6:Int)<(k:Int):=of_decide_eq_true h2
   refine brT ?_
   exact ret hbX (zfq hg (by omega))
  have h2:¬ (6:Int)<(k:Int):=of_decide_eq_false h2
  refine biE (fun h3=>?_) fun h3=>?_
  ·have h3:(48:Int)<(ev.length:Int):=of_decide_eq_true h3
   exact ret hbX (zfq hg (by omega))
  have h3:¬ (48:Int)<(ev.length:Int):=of_decide_eq_false h3
  exact⟨(),(cvE rfl rfl),by omega,rfl⟩
 rintro _ _ ⟨⟨k1,k6,h48⟩,rfl⟩
 obtain⟨bq,oq,hqe,hbq,hat⟩:∃ bq oq,q=some ⟨bq,oq,none⟩∧bq<w.heap.size∧∀ i,i<ev.length→zau w ⟨bq,oq+i*7,none⟩ (evE.enc (ev.getD i ev0)):=zhE hv (by omega)
 subst hqe
 refine⟨Nat,fun i=>⟨[(0,.slice (some ⟨bq,oq,none⟩) ev.length c),(3,i64 (k:Nat)),(4,i64 (i:Nat))],[]⟩,fun i X=>(k≤i∧i≤ev.length)∧(∀ j,j<i-k→zdi ev k j=true)∧Below w.heap.size w X,fun i=>ev.length-i,k,(cvE rfl rfl),⟨by omega,fun j hj=>by omega,hbX⟩,?_⟩
 clear hbX
 clear X
 rintro i X ⟨⟨hki,hi⟩,hall,hbX⟩
 dsimp only
 refine biE (fun hc=>?_) fun hc=>?_
 ·have hc:(i:Int)<(ev.length:Int):=of_decide_eq_true hc
  have hil:i<ev.length:=by omega
  obtain⟨e,he⟩:=nm (ev.getD i ev0)
  have hati:=hat i hil
  rw [← he] at hati
  have bad:∀ {Y:World},Below w.heap.size w Y→zdi ev k (i-k)=false→(Ending.returned (i64 (-1))=Ending.returned (zew ev)∧Below w.heap.size w Y):=fun {Y} hb h=>ret hb (zj3 hg (by omega) h)
  refine⟨i,rfl,hil,?_⟩
  refine⟨evE.enc e,rfl,zag hbX hati,Nat.lt_of_lt_of_le hbq hbX.size,?_⟩
  obtain⟨M,hM⟩:=nm (X.heap.size)
  refine zap (X:=X) (v := .agg (evE.enc e).toArray) (ttOk.get 54 _ rfl) rfl rfl (List.all_eq_true.2 fun u hu=>evE.one e u hu) fun Y hbY fY sY=>?_
  replace fY:Y.heap[M]?=some (.cells (evE.enc e).toArray 54 (0,0)):=by rw [hM];exact fY
  have hbY2:=hbX.trans (hbY.mono hbX.size)
  have hei:ev.getD (k+(i-k)) ev0=e:=by rw [show k+(i-k)=i by omega,he]
  have spec:zdi ev k (i-k)=(((List.range (i-k)).all fun t=>decide ((ev.getD (k+t) ev0).th≤e.th))&&(decide (0≤e.th)&&(decide (e.th≤3)&&(decide (e.p.toNat=cntQ (fun t=>decide ((ev.getD (k+t) ev0).th=e.th)) (i-k))&&zfm e k)))):=by
   unfold zdi
   rw [hei]
  refine⟨Nat,fun u=>⟨[(0,.slice (some ⟨bq,oq,none⟩) ev.length c),(3,i64 (k:Nat)),(4,i64 (i:Nat)),(5,At0 M),(6,i64 (cntQ (fun t=>decide ((ev.getD (k+t) ev0).th=e.th)) (u-k):Nat)),(7,i64 (u:Nat))],[]⟩,fun u Z=>(k≤u∧u≤i)∧(∀ t,t<u-k→(ev.getD (k+t) ev0).th≤e.th)∧Z.heap[M]?=some (.cells (evE.enc e).toArray 54 (0,0))∧Below w.heap.size w Z,fun u=>i-u,k,⟨.cons rfl (.cons rfl (.cons rfl (.cons (by rw [hM];rfl) (.cons (by rw [Nat.sub_self];rfl) (.cons rfl .nil))))),rfl⟩,⟨by omega,fun t ht=>by omega,fY,hbY2⟩,?_⟩
  clear hM hbX hbY fY sY hbY2
  clear Y X
  rintro u X ⟨⟨hku,hui⟩,hle,fM,hbX⟩
  dsimp only
  have dX:Below X.heap.size X X.drew:=(Below.refl _ _).drew
  have hbD:=hbX.trans (dX.mono hbX.size)
  refine biE (fun hc=>?_) fun hc=>?_
  ·have hc:(u:Int)<(i:Int):=of_decide_eq_true hc
   have hul:u<i:=by omega
   obtain⟨g,hge⟩:=nm (ev.getD u ev0)
   have hatu:=hat u (by omega)
   rw [← hge] at hatu
   have hgu:ev.getD (k+(u-k)) ev0=g:=by rw [show k+(u-k)=u by omega,hge]
   have hsu:u+1-k=(u-k)+1:=by omega
   have hcl:cntQ (fun t=>decide ((ev.getD (k+t) ev0).th=e.th)) (u-k)≤u-k:=by
    unfold cntQ
    have:=List.length_filter_le (fun t=>decide ((ev.getD (k+t) ev0).th=e.th)) (List.range (u-k))
    rw [List.length_range] at this
    exact this
   have fD:=zab dX fM
   have late:∀ {n:Nat},n=cntQ (fun t=>decide ((ev.getD (k+t) ev0).th=e.th)) (u+1-k)→g.th≤e.th→(∀ t,t<u+1-k→(ev.getD (k+t) ev0).th≤e.th):=fun {n} _ h t ht=>by
    by_cases e2:t=u-k
    ·rw [e2,hgu];exact h
    ·exact hle t (by omega)
   have worse:¬ g.th≤e.th→zdi ev k (i-k)=false:=fun h=>by
    rw [spec]
    have:((List.range (i-k)).all fun t=>decide ((ev.getD (k+t) ev0).th≤e.th))=false:=by
     rw [List.all_eq_false]
     exact⟨u-k,List.mem_range.2 (by omega),by rw [hgu,decide_eq_false h];decide⟩
    rw [this];rfl
   refine DrawE.ord [] [0,1,2,3,4,5,6,7] (by kernel_rfl) ?_
   refine⟨u,rfl,by omega,?_⟩
   refine⟨i64 g.th,by have:=zac (zag hbD hatu) (i:=0) (v:=i64 g.th) rfl;exact this,?_⟩
   refine⟨i64 e.th,zac (zaa fD) (i:=0) rfl,?_⟩
   have dD:Below X.drew.heap.size X.drew X.drew.drew:=(Below.refl _ _).drew
   have hbE:=hbD.trans (dD.mono hbD.size)
   have fE:=zab dD fD
   refine biE (fun h1=>?_) fun h1=>?_
   ·have h1:g.th=e.th:=of_decide_eq_true h1
    have e1:cntQ (fun t=>decide ((ev.getD (k+t) ev0).th=e.th)) (u+1-k)=cntQ (fun t=>decide ((ev.getD (k+t) ev0).th=e.th)) (u-k)+1:=by
     rw [hsu,zaQ,if_pos (by rw [hgu];exact decide_eq_true h1)]
    refine⟨((cntQ (fun t=>decide ((ev.getD (k+t) ev0).th=e.th)) (u+1-k):Nat):Int),(zad (by omega)).trans (by omega),?_⟩
    refine DrawE.ord [] [0,1,2,3,4,5,6,7] (by kernel_rfl) ?_
    refine⟨u,rfl,by omega,?_⟩
    refine⟨i64 g.th,by have:=zac (zag hbE hatu) (i:=0) (v:=i64 g.th) rfl;exact this,?_⟩
    refine⟨i64 e.th,zac (zaa fE) (i:=0) rfl,?_⟩
    refine brN (decide_eq_false (by omega)) ?_
    refine⟨((u+1:Nat):Int),(zad (by omega)).trans (by omega),?_⟩
    exact⟨u+1,(cvE rfl rfl),⟨by omega,late rfl (by omega),fE,hbE⟩,by show i-(u+1)<i-u;omega⟩
   ·have h1:¬ g.th=e.th:=of_decide_eq_false h1
    have e1:cntQ (fun t=>decide ((ev.getD (k+t) ev0).th=e.th)) (u+1-k)=cntQ (fun t=>decide ((ev.getD (k+t) ev0).th=e.th)) (u-k):=by
     rw [hsu,zaQ,if_neg (by rw [hgu,decide_eq_false h1];decide)];rfl
    refine DrawE.ord [] [0,1,2,3,4,5,6,7] (by kernel_rfl) ?_
    refine⟨u,rfl,by omega,?_⟩
    refine⟨i64 g.th,by have:=zac (zag hbE hatu) (i:=0) (v:=i64 g.th) rfl;exact this,?_⟩
    refine⟨i64 e.th,zac (zaa fE) (i:=0) rfl,?_⟩
    refine biE (fun h2=>?_) fun h2=>?_
    ·have h2:e.th<g.th:=of_decide_eq_true h2
     exact bad hbE (worse (by omega))
    ·have h2:¬ e.th<g.th:=of_decide_eq_false h2
     refine⟨((u+1:Nat):Int),(zad (by omega)).trans (by omega),?_⟩
     exact⟨u+1,⟨.cons rfl (.cons rfl (.cons rfl (.cons rfl (.cons (by rw [← e1];rfl) (.cons rfl .nil))))),rfl⟩,⟨by omega,late rfl (by omega),fE,hbE⟩,by show i-(u+1)<i-u;omega⟩
  ·have hc:¬ (u:Int)<(i:Int):=of_decide_eq_false hc
   obtain rfl:u=i:=by omega
   have hle2:((List.range (u-k)).all fun t=>decide ((ev.getD (k+t) ev0).th≤e.th))=true:=by
    rw [List.all_eq_true]
    exact fun t ht=>decide_eq_true (hle t (List.mem_range.1 ht))
   rw [hle2,Bool.true_and] at spec
   obtain⟨cn,hcn⟩:=nm (cntQ (fun t=>decide ((ev.getD (k+t) ev0).th=e.th)) (u-k))
   rw [← hcn] at spec ⊢
   have spec2:zdi ev k (u-k)=true↔0≤e.th∧e.th≤3∧e.p.toNat=cn∧1≤e.k.toNat∧e.k.toNat≤3∧(e.k.toNat=3→e.l.toNat=0∧e.v.toNat=0)∧(e.k.toNat<3→e.l.toNat<k):=by
    rw [spec]
    simp only [Bool.and_eq_true,decide_eq_true_eq,zlh]
   refine⟨_,znt fM,?_⟩
   refine biE (fun h1=>?_) fun h1=>?_
   ·refine brT ?_
    refine brT ?_
    refine brT ?_
    refine brT ?_
    refine brT ?_
    refine brT ?_
    simp only [decide_eq_true_eq,decide_eq_false_iff_not,Bool.not_eq_true',Bool.not_eq_false'] at h1
    exact bad hbX (Bool.eq_false_iff.2 fun hx=>by have:=spec2.1 hx;omega)
   ·refine⟨_,znt fM,?_⟩
    refine biE (fun h2=>?_) fun h2=>?_
    ·refine brT ?_
     refine brT ?_
     refine brT ?_
     refine brT ?_
     refine brT ?_
     simp only [decide_eq_true_eq,decide_eq_false_iff_not,Bool.not_eq_true',Bool.not_eq_false'] at h1 h2
     exact bad hbX (Bool.eq_false_iff.2 fun hx=>by have:=spec2.1 hx;omega)
    ·refine⟨_,zqA fM,?_⟩
     refine⟨(e.p.toNat:Int),zaE _,?_⟩
     refine biE (fun h3=>?_) fun h3=>?_
     ·have h3:=notB h3
      refine brT ?_
      refine brT ?_
      refine brT ?_
      refine brT ?_
      simp only [decide_eq_true_eq,decide_eq_false_iff_not,Bool.not_eq_true',Bool.not_eq_false'] at h1 h2 h3
      exact bad hbX (Bool.eq_false_iff.2 fun hx=>by have:=spec2.1 hx;omega)
     ·have h3:=notF h3
      refine⟨_,zlG fM,?_⟩
      refine biE (fun h4=>?_) fun h4=>?_
      ·refine brT ?_
       refine brT ?_
       refine brT ?_
       simp only [decide_eq_true_eq,decide_eq_false_iff_not,Bool.not_eq_true',Bool.not_eq_false'] at h1 h2 h3 h4
       exact bad hbX (Bool.eq_false_iff.2 fun hx=>by have:=spec2.1 hx;omega)
      ·refine⟨_,zlG fM,?_⟩
       refine biE (fun h5=>?_) fun h5=>?_
       ·refine brT ?_
        refine brT ?_
        simp only [decide_eq_true_eq,decide_eq_false_iff_not,Bool.not_eq_true',Bool.not_eq_false'] at h1 h2 h3 h4 h5
        exact bad hbX (Bool.eq_false_iff.2 fun hx=>by have:=spec2.1 hx;omega)
       ·refine⟨_,zlG fM,?_⟩
        refine biE (fun h6=>?_) fun h6=>?_
        ·refine⟨_,zox fM,?_⟩
         refine biE (fun h7=>?_) fun h7=>?_
         ·have h7:=notB h7
          refine brT ?_
          refine brT ?_
          simp only [decide_eq_true_eq,decide_eq_false_iff_not,Bool.not_eq_true',Bool.not_eq_false'] at h1 h2 h3 h4 h5 h6 h7
          exact bad hbX (Bool.eq_false_iff.2 fun hx=>by have:=spec2.1 hx;omega)
         ·have h7:=notF h7
          refine⟨_,zqz fM,?_⟩
          refine biE (fun h8=>?_) fun h8=>?_
          ·have h8:=notB h8
           refine brT ?_
           simp only [decide_eq_true_eq,decide_eq_false_iff_not,Bool.not_eq_true',Bool.not_eq_false'] at h1 h2 h3 h4 h5 h6 h7 h8
           exact bad hbX (Bool.eq_false_iff.2 fun hx=>by have:=spec2.1 hx;omega)
          ·have h8:=notF h8
           refine⟨_,zlG fM,?_⟩
           refine biE (fun h9=>?_) fun h9=>?_
           ·refine⟨_,zox fM,?_⟩
            refine⟨(e.l.toNat:Int),zaE _,?_⟩
            refine biE (fun h10=>?_) fun h10=>?_
            ·simp only [decide_eq_true_eq,decide_eq_false_iff_not,Bool.not_eq_true',Bool.not_eq_false'] at h1 h2 h3 h4 h5 h6 h7 h8 h9 h10
             exact bad hbX (Bool.eq_false_iff.2 fun hx=>by have:=spec2.1 hx;omega)
            ·simp only [decide_eq_true_eq,decide_eq_false_iff_not,Bool.not_eq_true',Bool.not_eq_false'] at h1 h2 h3 h4 h5 h6 h7 h8 h9 h10
             have one:zdi ev k (u-k)=true:=spec2.2 ⟨by omega,by omega,by omega,by omega,by omega,fun _=>⟨by omega,by omega⟩,fun _=>by omega⟩
             refine⟨((u+1:Nat):Int),(zad (by omega)).trans (by omega),?_⟩
             exact⟨u+1,(cvE rfl rfl),⟨by omega,fun j hj=>by
              by_cases e2:j=u-k
              ·rw [e2];exact one
              ·exact hall j (by omega),hbX⟩,by show ev.length-(u+1)<ev.length-u;omega⟩
           ·refine brF ?_
            simp only [decide_eq_true_eq,decide_eq_false_iff_not,Bool.not_eq_true',Bool.not_eq_false'] at h1 h2 h3 h4 h5 h6 h7 h8 h9
            have one:zdi ev k (u-k)=true:=spec2.2 ⟨by omega,by omega,by omega,by omega,by omega,fun _=>⟨by omega,by omega⟩,fun _=>by omega⟩
            refine⟨((u+1:Nat):Int),(zad (by omega)).trans (by omega),?_⟩
            exact⟨u+1,(cvE rfl rfl),⟨by omega,fun j hj=>by
             by_cases e2:j=u-k
             ·rw [e2];exact one
             ·exact hall j (by omega),hbX⟩,by show ev.length-(u+1)<ev.length-u;omega⟩
        ·refine brF ?_
         refine⟨_,zlG fM,?_⟩
         refine biE (fun h11=>?_) fun h11=>?_
         ·refine⟨_,zox fM,?_⟩
          refine⟨(e.l.toNat:Int),zaE _,?_⟩
          refine biE (fun h12=>?_) fun h12=>?_
          ·simp only [decide_eq_true_eq,decide_eq_false_iff_not,Bool.not_eq_true',Bool.not_eq_false'] at h1 h2 h3 h4 h5 h6 h11 h12
           exact bad hbX (Bool.eq_false_iff.2 fun hx=>by have:=spec2.1 hx;omega)
          ·simp only [decide_eq_true_eq,decide_eq_false_iff_not,Bool.not_eq_true',Bool.not_eq_false'] at h1 h2 h3 h4 h5 h6 h11 h12
           have one:zdi ev k (u-k)=true:=spec2.2 ⟨by omega,by omega,by omega,by omega,by omega,fun _=>⟨by omega,by omega⟩,fun _=>by omega⟩
           refine⟨((u+1:Nat):Int),(zad (by omega)).trans (by omega),?_⟩
           exact⟨u+1,(cvE rfl rfl),⟨by omega,fun j hj=>by
            by_cases e2:j=u-k
            ·rw [e2];exact one
            ·exact hall j (by omega),hbX⟩,by show ev.length-(u+1)<ev.length-u;omega⟩
         ·refine brF ?_
          simp only [decide_eq_true_eq,decide_eq_false_iff_not,Bool.not_eq_true',Bool.not_eq_false'] at h1 h2 h3 h4 h5 h6 h11
          have one:zdi ev k (u-k)=true:=spec2.2 ⟨by omega,by omega,by omega,by omega,by omega,fun _=>⟨by omega,by omega⟩,fun _=>by omega⟩
          refine⟨((u+1:Nat):Int),(zad (by omega)).trans (by omega),?_⟩
          exact⟨u+1,(cvE rfl rfl),⟨by omega,fun j hj=>by
           by_cases e2:j=u-k
           ·rw [e2];exact one
           ·exact hall j (by omega),hbX⟩,by show ev.length-(u+1)<ev.length-u;omega⟩
 ·have hc:¬ (i:Int)<(ev.length:Int):=of_decide_eq_false hc
  obtain rfl:i=ev.length:=by omega
  refine⟨?_,hbX⟩
  unfold zew
  rw [zj1 hg (by omega) fun j hj=>hall j (by omega)]
  rfl
end
def pl1 (x:ExD) (l a:Nat):Bool:=decide (zbA x.co a+zbN x.co a+1=zjW x l)&&(!hasQ x.co a a&&((!decide (a=l)||decide (zbA x.co a=0))&&(!decide (zbN x.co a=0)||decide (x.mem l=(evA x a).v))))
def pl2 (x:ExD) (l a b:Nat):Bool := !(!decide (b=a)&&zbM x b l) || !(hasQ x.co a b == hasQ x.co b a)
def pl3 (x:ExD) (a b c:Nat):Bool := !(hasQ x.co a b&&hasQ x.co b c)||hasQ x.co a c
def plB (x:ExD) (l a b:Nat):Bool:=pl2 x l a b&&(List.range x.ev.length).all fun c=>pl3 x a b c
def plA (x:ExD) (l a:Nat):Bool := !zbM x a l||(pl1 x l a&&(List.range x.ev.length).all fun b=>plB x l a b)
def plL (x:ExD) (locs l:Nat):Bool:=if locs≤l then decide (x.mem l=0) else (List.range x.ev.length).all fun a=>plA x l a
theorem zmE (x:ExD) (locs:Nat):ze6 x locs=(List.range 6).all fun l=>plL x locs l:=rfl
theorem zcE {n i:Nat} {f:Nat→Bool} (hi:i<n) (h:f i=false):(List.range n).all f=false:=by
 rw [List.all_eq_false]
 exact⟨i,List.mem_range.2 hi,by rw [h];decide⟩
theorem zc1 {n:Nat} {f:Nat→Bool} (h:∀ i,i<n→f i=true):(List.range n).all f=true:=by
 rw [List.all_eq_true]
 exact fun i hi=>h i (List.mem_range.1 hi)
theorem zbi {k:Nat} {f:Nat→Bool} (h:∀ i,i<k→f i=true) (hk:f k=true):∀ i,i<k+1→f i=true:=fun i hi=>by
 by_cases e:i=k
 ·rw [e];exact hk
 ·exact h i (by omega)
theorem zjo (f:Nat→Bool) (n:Nat):cntQ f n≤n:=by
 unfold cntQ
 have:=List.length_filter_le f (List.range n)
 rw [List.length_range] at this
 exact this
theorem zlK {a b m:Nat}:decide (((a:Nat):Int)+((b:Nat):Int)=((m:Nat):Int)-1)=decide (a+b+1=m):=decide_eq_decide.2 (by omega)
theorem zdL {a b:Nat}:decide ((a:Int)=(b:Int))=decide (a=b):=decide_eq_decide.2 Int.ofNat_inj
theorem zlL {a:Nat}:decide ((0:Int)<(a:Int)) = !decide (a=0):=by
 rw [← decide_not]
 exact decide_eq_decide.2 (by omega)
theorem zaA (a b:Bool):(a == b)=decide (a=b):=by cases a <;> cases b <;> rfl
theorem zgH {X:World} {b:Nat} {x:ExD} {q:Option Addr} {c l:Nat} (fx:zau X ⟨b,0,none⟩ (exC x q c)) (hl:l<6):X.cell? ⟨b,0+295+32+l*1,none⟩=some (u8 (x.mem l)):=by
 have h:=zlw (x:=x) q c
 have h2:(exC x q c)[327+l]?=some (u8 (x.mem l)):=by
  have h3:(((exC x q c).drop 327).take 6)[l]?=some (u8 (x.mem l)):=by
   rw [h]
   unfold seg
   rw [List.getElem?_map,List.getElem?_range hl];rfl
  rw [List.getElem?_take_of_lt hl,List.getElem?_drop] at h3
  exact h3
 have h4:=zac fx h2
 rw [show 0+(327+l)=0+295+32+l*1 by omega] at h4
 exact h4
section
variable {w:World} {c:Nat} {x:ExD} {q:Option Addr}
theorem zmD {locs:Nat} (hv:ExV w x q) (hpos:0<x.ev.length) (hco:x.co.n=x.ev.length) (hl6:locs≤6):Calls Tryz.prog 49 #[.agg (exC x q c).toArray,i64 (locs:Nat)] w fun e w'=>e = .returned (.bool (ze6 x locs))∧Below w.heap.size w w':=by
 obtain⟨bq,oq,hqe,hbq,hat⟩:=zdk hv.ev hpos
 subst hqe
 have h16:=hv.n
 rw [zmE]
 refine zal (S:=sg 153) (sgOk _) (args:=[.agg (exC x (some ⟨bq,oq,none⟩) c).toArray,i64 (locs:Nat)]) (.c .p (.c .p (.s (.s .p (.b (.l (.s .p (.s (.b (.c .p (.c .p (.c .p (.s .p (.b (.l (.s .p (.s (.b (.c .p (.c .p (.c .p (.s .p (.b (.l (.s .p (.s (.b (.c .p .p)) .p))))))))) .p))))))))) .p))))) .p))) Tryz.func49 rfl rfl (Nat.le_of_ble_eq_true rfl) rfl ?_
 obtain⟨L,hL⟩:=nm (w.heap.size)
 refine⟨Unit,fun _=>⟨[(1,i64 (locs:Nat)),(2,At0 L)],[]⟩,fun _ X=>ExH X L x (some ⟨bq,oq,none⟩) c∧Below w.heap.size w X,⟨(),⟨.cons rfl (.cons (by rw [hL];rfl) .nil),rfl⟩,by rw [hL];exact hnew w _,(Below.refl _ w).alloc (Nat.le_refl _) _⟩,?_⟩
 rintro _ X ⟨fX,hbX⟩
 refine⟨Unit,fun _=>⟨[(1,i64 (locs:Nat)),(2,At0 L),(5,.slice (some ⟨bq,oq,none⟩) x.ev.length c),(6,i64 x.ev.length)],[]⟩,fun _ Z=>ExH Z L x (some ⟨bq,oq,none⟩) c∧Below w.heap.size w Z,?_,?_⟩
 ·have dX:Below X.heap.size X X.drew:=(Below.refl _ _).drew
  refine DrawE.ord [] [0,1,2,3,4,5,6] (by kernel_rfl) ?_
  have fX:=zab dX fX
  refine⟨_,zaT (zaa fX),?_⟩
  refine⟨_,zaT (zaa fX),?_⟩
  exact⟨(),⟨.cons rfl (.cons rfl (.cons rfl (.cons rfl (.nil)))),rfl⟩,fX,hbX.trans (dX.mono hbX.size)⟩
 clear fX hbX
 clear X
 rintro _ X ⟨fX,hbX⟩
 refine⟨Nat,fun l=>⟨[(1,i64 (locs:Nat)),(2,At0 L),(5,.slice (some ⟨bq,oq,none⟩) x.ev.length c),(6,i64 x.ev.length),(7,i64 (l:Nat))],[]⟩,fun l Z=>l≤6∧(∀ i,i<l→plL x locs i=true)∧ExH Z L x (some ⟨bq,oq,none⟩) c∧Below w.heap.size w Z,fun l=>6-l,0,⟨.cons rfl (.cons rfl (.cons rfl (.cons rfl (.cons rfl (.nil))))),rfl⟩,⟨Nat.zero_le _,fun i hi=>by omega,fX,hbX⟩,?_⟩
 clear fX hbX
 rintro l X ⟨hl,hall,fX,hbX⟩
 dsimp only
 refine biE (fun hc=>?_) fun hc=>?_
 ·have hc:(l:Int)<6:=of_decide_eq_true hc
  have hln:l<6:=by omega
  refine⟨Unit,fun _=>⟨[(1,i64 (locs:Nat)),(2,At0 L),(5,.slice (some ⟨bq,oq,none⟩) x.ev.length c),(6,i64 x.ev.length),(7,i64 (l:Nat))],[]⟩,fun _ Z=>¬ locs≤l∧ExH Z L x (some ⟨bq,oq,none⟩) c∧Below w.heap.size w Z,?_,?_⟩
  ·refine biE (fun h1=>?_) fun h1=>?_
   ·have h1:(locs:Int)≤(l:Int):=of_decide_eq_true h1
    have hs:plL x locs l=decide (x.mem l=0):=if_pos (by omega)
    refine⟨l,rfl,by omega,?_⟩
    refine⟨u8 (x.mem l),zgH (zaa fX) (by omega),?_⟩
    refine biE (fun h1=>?_) fun h1=>?_
    ·have h1:=zo5.symm.trans (notB h1)
     exact⟨rb (zcE hln (by rw [hs,h1])).symm,hbX⟩
    ·have h1:=zo5.symm.trans (notF h1)
     refine⟨((l+1:Nat):Int),(zad (by omega)).trans (by omega),?_⟩
     exact⟨l+1,⟨.cons rfl (.cons rfl (.cons rfl (.cons rfl (.cons rfl (.nil))))),rfl⟩,⟨hln,zbi hall (by rw [hs,h1]),fX,hbX⟩,by show 6-(l+1)<6-l;omega⟩
   ·have h1:¬ (locs:Int)≤(l:Int):=of_decide_eq_false h1
    exact⟨(),⟨.cons rfl (.cons rfl (.cons rfl (.cons rfl (.cons rfl (.nil))))),rfl⟩,by omega,fX,hbX⟩
  clear fX hbX
  rintro _ X ⟨h1,fX,hbX⟩
  have hs:plL x locs l=(List.range x.ev.length).all fun a=>plA x l a:=if_neg h1
  refine⟨Unit,fun _=>⟨[(1,i64 (locs:Nat)),(2,At0 L),(5,.slice (some ⟨bq,oq,none⟩) x.ev.length c),(6,i64 x.ev.length),(7,i64 (l:Nat)),(8,i64 (0:Nat))],[]⟩,fun _ Z=>ExH Z L x (some ⟨bq,oq,none⟩) c∧Below w.heap.size w Z,⟨(),⟨.cons rfl (.cons rfl (.cons rfl (.cons rfl (.cons rfl (.cons rfl (.nil)))))),rfl⟩,fX,hbX⟩,?_⟩
  clear fX hbX
  rintro _ X ⟨fX,hbX⟩
  refine⟨Unit,fun _=>⟨[(1,i64 (locs:Nat)),(2,At0 L),(5,.slice (some ⟨bq,oq,none⟩) x.ev.length c),(6,i64 x.ev.length),(7,i64 (l:Nat)),(8,i64 (zjW x l:Nat))],[]⟩,fun _ Z=>ExH Z L x (some ⟨bq,oq,none⟩) c∧Below w.heap.size w Z,?_,?_⟩
  ·refine⟨Nat,fun u=>⟨[(1,i64 (locs:Nat)),(2,At0 L),(5,.slice (some ⟨bq,oq,none⟩) x.ev.length c),(6,i64 x.ev.length),(7,i64 (l:Nat)),(8,i64 (cntQ (fun a=>zbM x a l) u:Nat)),(9,i64 (u:Nat))],[]⟩,fun u Z=>u≤x.ev.length∧ExH Z L x (some ⟨bq,oq,none⟩) c∧Below w.heap.size w Z,fun u=>x.ev.length-u,0,⟨.cons rfl (.cons rfl (.cons rfl (.cons rfl (.cons rfl (.cons rfl (.cons rfl (.nil))))))),rfl⟩,⟨Nat.zero_le _,fX,hbX⟩,?_⟩
   clear fX hbX
   clear X
   rintro u X ⟨hu,fX,hbX⟩
   dsimp only
   refine biE (fun hc=>?_) fun hc=>?_
   ·have hc:(u:Int)<(x.ev.length:Int):=of_decide_eq_true hc
    have hun:u<x.ev.length:=by omega
    have hcl:=zjo (fun a=>zbM x a l) u
    refine Calls.mono (zgv (x:=x) (a:=u) (loc:=l) (hv.below hbX).ev (by omega)) ?_
    rintro e _ ⟨rfl,rfl⟩
    refine biE (fun h=>?_) fun h=>?_
    ·have h:zbM x u l=true:=h
     have e1:cntQ (fun a=>zbM x a l) (u+1)=cntQ (fun a=>zbM x a l) u+1:=by rw [zaQ,if_pos h]
     refine⟨((cntQ (fun a=>zbM x a l) (u+1):Nat):Int),(zad (by omega)).trans (by omega),?_⟩
     refine⟨((u+1:Nat):Int),(zad (by omega)).trans (by omega),?_⟩
     exact⟨u+1,⟨.cons rfl (.cons rfl (.cons rfl (.cons rfl (.cons rfl (.cons rfl (.cons rfl (.nil))))))),rfl⟩,⟨hun,fX,hbX⟩,by show x.ev.length-(u+1)<x.ev.length-u;omega⟩
    ·have h:zbM x u l=false:=h
     have e1:cntQ (fun a=>zbM x a l) (u+1)=cntQ (fun a=>zbM x a l) u:=by rw [zaQ,if_neg (by rw [h];decide)];rfl
     refine⟨((u+1:Nat):Int),(zad (by omega)).trans (by omega),?_⟩
     exact⟨u+1,⟨.cons rfl (.cons rfl (.cons rfl (.cons rfl (.cons rfl (.cons (by rw [e1];rfl) (.cons rfl .nil)))))),rfl⟩,⟨hun,fX,hbX⟩,by show x.ev.length-(u+1)<x.ev.length-u;omega⟩
   ·have hc:¬ (u:Int)<(x.ev.length:Int):=of_decide_eq_false hc
    have hu2:cntQ (fun a=>zbM x a l) u=zjW x l:=by rw [show u=x.ev.length by omega];rfl
    exact⟨(),⟨.cons rfl (.cons rfl (.cons rfl (.cons rfl (.cons rfl (.cons (by rw [← hu2];rfl) .nil))))),rfl⟩,fX,hbX⟩
  clear fX hbX
  rintro _ X ⟨fX,hbX⟩
  obtain⟨many,hmq⟩:∃ many,zjW x l=many:=⟨_,rfl⟩
  have hml:many≤x.ev.length:=by rw [← hmq];exact zjo _ _
  rw [hmq]
  refine⟨Nat,fun a=>⟨[(1,i64 (locs:Nat)),(2,At0 L),(5,.slice (some ⟨bq,oq,none⟩) x.ev.length c),(6,i64 x.ev.length),(7,i64 (l:Nat)),(8,i64 (many:Nat)),(10,i64 (a:Nat))],[]⟩,fun a Z=>a≤x.ev.length∧(∀ i,i<a→plA x l i=true)∧ExH Z L x (some ⟨bq,oq,none⟩) c∧Below w.heap.size w Z,fun a=>x.ev.length-a,0,⟨.cons rfl (.cons rfl (.cons rfl (.cons rfl (.cons rfl (.cons rfl (.cons rfl (.nil))))))),rfl⟩,⟨Nat.zero_le _,fun i hi=>by omega,fX,hbX⟩,?_⟩
  clear fX hbX
  rintro a X ⟨ha,hallA,fX,hbX⟩
  dsimp only
  refine biE (fun hc=>?_) fun hc=>?_
  ·have hc:(a:Int)<(x.ev.length:Int):=of_decide_eq_true hc
   have han:a<x.ev.length:=by omega
   refine⟨Unit,fun _=>⟨[(1,i64 (locs:Nat)),(2,At0 L),(5,.slice (some ⟨bq,oq,none⟩) x.ev.length c),(6,i64 x.ev.length),(7,i64 (l:Nat)),(8,i64 (many:Nat)),(10,i64 (a:Nat))],[]⟩,fun _ Z=>zbM x a l=true∧ExH Z L x (some ⟨bq,oq,none⟩) c∧Below w.heap.size w Z,?_,?_⟩
   ·refine Calls.mono (zgv (x:=x) (a:=a) (loc:=l) (hv.below hbX).ev (by omega)) ?_
    rintro e _ ⟨rfl,rfl⟩
    refine biE (fun h0=>?_) fun h0=>?_
    ·have h0:zbM x a l=false:=notB h0
     refine⟨((a+1:Nat):Int),(zad (by omega)).trans (by omega),?_⟩
     exact⟨a+1,⟨.cons rfl (.cons rfl (.cons rfl (.cons rfl (.cons rfl (.cons rfl (.cons rfl (.nil))))))),rfl⟩,⟨han,zbi hallA (by unfold plA;rw [h0];rfl),fX,hbX⟩,by show x.ev.length-(a+1)<x.ev.length-a;omega⟩
    ·have h0:zbM x a l=true:=notF h0
     exact⟨(),⟨.cons rfl (.cons rfl (.cons rfl (.cons rfl (.cons rfl (.cons rfl (.cons rfl (.nil))))))),rfl⟩,h0,fX,hbX⟩
   clear fX hbX
   rintro _ X ⟨h0,fX,hbX⟩
   have hpA:plA x l a=(pl1 x l a&&(List.range x.ev.length).all fun b=>plB x l a b):=by unfold plA;rw [h0];rfl
   have hA0:zbA x.co a≤x.ev.length:=by unfold zbA;rw [hco];exact zjo _ _
   have hB0:zbN x.co a≤x.ev.length:=by unfold zbN;rw [hco];exact zjo _ _
   refine⟨Unit,fun _=>⟨[(1,i64 (locs:Nat)),(2,At0 L),(5,.slice (some ⟨bq,oq,none⟩) x.ev.length c),(6,i64 x.ev.length),(7,i64 (l:Nat)),(8,i64 (many:Nat)),(10,i64 (a:Nat)),(11,i64 (zbA x.co a:Nat)),(12,i64 (zbN x.co a:Nat))],[]⟩,fun _ Z=>ExH Z L x (some ⟨bq,oq,none⟩) c∧Below w.heap.size w Z,?_,?_⟩
   ·have dX:Below X.heap.size X X.drew:=(Below.refl _ _).drew
    refine DrawE.ord [] [0,1,2,4,5,6,3,7,8,9] (by kernel_rfl) ?_
    have fX:=zab dX fX
    replace hbX:=hbX.trans (dX.mono hbX.size)
    clear dX
    refine⟨_,zaf _,r_co fX,hlt fX,?_⟩
    refine⟨_,zaf _,r_co fX,hlt fX,?_⟩
    refine Calls.mono (zeW (n:=x.ev.length) (a:=a) hv.co hco (by omega) (by omega)) ?_
    rintro e U ⟨rfl,hbU⟩
    refine⟨hbU,?_⟩
    have fX:=zab hbU fX
    replace hbX:=hbX.trans (hbU.mono hbX.size)
    refine Calls.mono (zgW (n:=x.ev.length) (a:=a) hv.co hco (by omega) (by omega)) ?_
    rintro e U ⟨rfl,hbU⟩
    refine⟨hbU,?_⟩
    have fX:=zab hbU fX
    replace hbX:=hbX.trans (hbU.mono hbX.size)
    exact⟨(),⟨.cons rfl (.cons rfl (.cons rfl (.cons rfl (.cons rfl (.cons rfl (.cons rfl (.cons rfl (.cons rfl (.nil))))))))),rfl⟩,fX,hbX⟩
   clear fX hbX
   rintro _ X ⟨fX,hbX⟩
   have badA:pl1 x l a=false→(List.range 6).all (fun l=>plL x locs l)=false:=fun h=>zcE hln (by rw [hs];exact zcE han (by rw [hpA,h];rfl))
   have badB:∀ b,b<x.ev.length→plB x l a b=false→(List.range 6).all (fun l=>plL x locs l)=false:=fun b hb h=>zcE hln (by rw [hs];exact zcE han (by rw [hpA,zcE hb h,Bool.and_false]))
   refine⟨Unit,fun _=>⟨[(1,i64 (locs:Nat)),(2,At0 L),(5,.slice (some ⟨bq,oq,none⟩) x.ev.length c),(6,i64 x.ev.length),(7,i64 (l:Nat)),(8,i64 (many:Nat)),(10,i64 (a:Nat))],[]⟩,fun _ Z=>pl1 x l a=true∧ExH Z L x (some ⟨bq,oq,none⟩) c∧Below w.heap.size w Z,?_,?_⟩
   ·refine DrawE.ord [] [0,1,2,3,4,5,6,7,8,9,10,11,12,13,14,15,16,17,18,19,20,21,22,23,24,25,26,27,28,29,30,31,32,33,34,35,36,37,38] (by kernel_rfl) ?_
    have fX:=hdr fX
    replace hbX:=hbX.trans ((Below.refl _ _).drew.mono hbX.size)
    refine⟨_,zad (by omega),?_⟩
    refine⟨_,zad (by omega),?_⟩
    refine biE (fun h1=>?_) fun h1=>?_
    ·have h1:=(zlK (a:=zbA x.co a) (b:=zbN x.co a) (m:=many)).symm.trans (notB h1)
     refine brT ?_
     refine brT ?_
     refine brT ?_
     exact⟨rb (badA (by unfold pl1;rw [hmq];simp [h1])).symm,hbX⟩
    ·have h1:=(zlK (a:=zbA x.co a) (b:=zbN x.co a) (m:=many)).symm.trans (notF h1)
     refine⟨_,zaf _,r_co fX,hlt fX,?_⟩
     refine Calls.mono (zbj hv.co (by omega) (by omega)) ?_
     rintro e U ⟨rfl,hbU⟩
     refine⟨hbU,?_⟩
     have fX:=zab hbU fX
     replace hbX:=hbX.trans (hbU.mono hbX.size)
     refine biE (fun h2=>?_) fun h2=>?_
     ·refine brT ?_
      refine brT ?_
      exact⟨rb (badA (by unfold pl1;rw [hmq];simp [h1,h2])).symm,hbX⟩
     ·refine biE (fun h3=>?_) fun h3=>?_
      ·have h3:=(zdL (a:=a) (b:=l)).symm.trans h3
       refine biE (fun h4=>?_) fun h4=>?_
       ·have h4:=notB ((zlL (a:=zbA x.co a)).symm.trans h4)
        refine brT ?_
        exact⟨rb (badA (by unfold pl1;rw [hmq];simp [h1,h2,h3,h4])).symm,hbX⟩
       ·have h4:=notF ((zlL (a:=zbA x.co a)).symm.trans h4)
        refine biE (fun h5=>?_) fun h5=>?_
        ·have h5:=(zdL (a:=zbN x.co a) (b:=0)).symm.trans h5
         refine⟨l,rfl,by omega,?_⟩
         refine⟨u8 (x.mem l),zgH (zaa fX) (by omega),?_⟩
         refine⟨a,rfl,by omega,?_⟩
         refine⟨_,zmX (zag hbX (hat a (by omega))),?_⟩
         refine biE (fun h6=>?_) fun h6=>?_
         ·have h6:=zc5.symm.trans (notB h6)
          exact⟨rb (badA (by unfold pl1;rw [hmq];simp [h1,h2,h3,h4,h5,h6])).symm,hbX⟩
         ·have h6:=zc5.symm.trans (notF h6)
          have hp1:pl1 x l a=true:=by unfold pl1;rw [hmq];simp [h1,h2,h3,h4,h5,h6]
          exact⟨(),⟨.cons rfl (.cons rfl (.cons rfl (.cons rfl (.cons rfl (.cons rfl (.cons rfl (.nil))))))),rfl⟩,hp1,fX,hbX⟩
        ·have h5:=(zdL (a:=zbN x.co a) (b:=0)).symm.trans h5
         refine brF ?_
         have hp1:pl1 x l a=true:=by unfold pl1;rw [hmq];simp [h1,h2,h3,h4,h5]
         exact⟨(),⟨.cons rfl (.cons rfl (.cons rfl (.cons rfl (.cons rfl (.cons rfl (.cons rfl (.nil))))))),rfl⟩,hp1,fX,hbX⟩
      ·have h3:=(zdL (a:=a) (b:=l)).symm.trans h3
       refine brF ?_
       refine biE (fun h7=>?_) fun h7=>?_
       ·have h7:=(zdL (a:=zbN x.co a) (b:=0)).symm.trans h7
        refine⟨l,rfl,by omega,?_⟩
        refine⟨u8 (x.mem l),zgH (zaa fX) (by omega),?_⟩
        refine⟨a,rfl,by omega,?_⟩
        refine⟨_,zmX (zag hbX (hat a (by omega))),?_⟩
        refine biE (fun h8=>?_) fun h8=>?_
        ·have h8:=zc5.symm.trans (notB h8)
         exact⟨rb (badA (by unfold pl1;rw [hmq];simp [h1,h2,h3,h7,h8])).symm,hbX⟩
        ·have h8:=zc5.symm.trans (notF h8)
         have hp1:pl1 x l a=true:=by unfold pl1;rw [hmq];simp [h1,h2,h3,h7,h8]
         exact⟨(),⟨.cons rfl (.cons rfl (.cons rfl (.cons rfl (.cons rfl (.cons rfl (.cons rfl (.nil))))))),rfl⟩,hp1,fX,hbX⟩
       ·have h7:=(zdL (a:=zbN x.co a) (b:=0)).symm.trans h7
        refine brF ?_
        have hp1:pl1 x l a=true:=by unfold pl1;rw [hmq];simp [h1,h2,h3,h7]
        exact⟨(),⟨.cons rfl (.cons rfl (.cons rfl (.cons rfl (.cons rfl (.cons rfl (.cons rfl (.nil))))))),rfl⟩,hp1,fX,hbX⟩
   clear fX hbX
   rintro _ X ⟨hp1,fX,hbX⟩
   refine⟨Nat,fun b=>⟨[(1,i64 (locs:Nat)),(2,At0 L),(5,.slice (some ⟨bq,oq,none⟩) x.ev.length c),(6,i64 x.ev.length),(7,i64 (l:Nat)),(8,i64 (many:Nat)),(10,i64 (a:Nat)),(13,i64 (b:Nat))],[]⟩,fun b Z=>b≤x.ev.length∧(∀ i,i<b→plB x l a i=true)∧ExH Z L x (some ⟨bq,oq,none⟩) c∧Below w.heap.size w Z,fun b=>x.ev.length-b,0,⟨.cons rfl (.cons rfl (.cons rfl (.cons rfl (.cons rfl (.cons rfl (.cons rfl (.cons rfl (.nil)))))))),rfl⟩,⟨Nat.zero_le _,fun i hi=>by omega,fX,hbX⟩,?_⟩
   clear fX hbX
   rintro b X ⟨hb,hallB,fX,hbX⟩
   dsimp only
   refine biE (fun hc=>?_) fun hc=>?_
   ·have hc:(b:Int)<(x.ev.length:Int):=of_decide_eq_true hc
    have hbn:b<x.ev.length:=by omega
    refine⟨Unit,fun _=>⟨[(1,i64 (locs:Nat)),(2,At0 L),(5,.slice (some ⟨bq,oq,none⟩) x.ev.length c),(6,i64 x.ev.length),(7,i64 (l:Nat)),(8,i64 (many:Nat)),(10,i64 (a:Nat)),(13,i64 (b:Nat))],[]⟩,fun _ Z=>pl2 x l a b=true∧ExH Z L x (some ⟨bq,oq,none⟩) c∧Below w.heap.size w Z,?_,?_⟩
    ·have dX:Below X.heap.size X X.drew:=(Below.refl _ _).drew
     refine DrawE.ord [] [0,1,2,3,4,5,6,7,8,9,10,11,12,13,15,16,17,18,14,19,20,21] (by kernel_rfl) ?_
     have fX:=zab dX fX
     replace hbX:=hbX.trans (dX.mono hbX.size)
     clear dX
     refine biE (fun h1=>?_) fun h1=>?_
     ·have h1:=(zdL (a:=b) (b:=a)).symm.trans (notB h1)
      refine Calls.mono (zgv (x:=x) (a:=b) (loc:=l) (hv.below hbX).ev (by omega)) ?_
      rintro e _ ⟨rfl,rfl⟩
      refine⟨Below.refl _ _,?_⟩
      refine biE (fun h2=>?_) fun h2=>?_
      ·refine⟨_,zaf _,r_co fX,hlt fX,?_⟩
       refine⟨_,zaf _,r_co fX,hlt fX,?_⟩
       refine Calls.mono (zbj hv.co (by omega) (by omega)) ?_
       rintro e U ⟨rfl,hbU⟩
       refine⟨hbU,?_⟩
       have fX:=zab hbU fX
       replace hbX:=hbX.trans (hbU.mono hbX.size)
       refine Calls.mono (zbj hv.co (by omega) (by omega)) ?_
       rintro e U ⟨rfl,hbU⟩
       refine⟨hbU,?_⟩
       have fX:=zab hbU fX
       replace hbX:=hbX.trans (hbU.mono hbX.size)
       refine⟨_,fun w=>zfw _ _ (hasQ (x.co) a b) (hasQ (x.co) b a) w,?_⟩
       refine biE (fun h3=>?_) fun h3=>?_
       ·exact⟨rb (badB b hbn (by unfold plB;rw [show pl2 x l a b=false by unfold pl2;simp [zaA,h1,h2,h3]];rfl)).symm,hbX⟩
       ·have hp2:pl2 x l a b=true:=by unfold pl2;simp [zaA,h1,h2,h3]
        exact⟨(),⟨.cons rfl (.cons rfl (.cons rfl (.cons rfl (.cons rfl (.cons rfl (.cons rfl (.cons rfl (.nil)))))))),rfl⟩,hp2,fX,hbX⟩
      ·refine brF ?_
       have hp2:pl2 x l a b=true:=by unfold pl2;simp [zaA,h1,h2]
       exact⟨(),⟨.cons rfl (.cons rfl (.cons rfl (.cons rfl (.cons rfl (.cons rfl (.cons rfl (.cons rfl (.nil)))))))),rfl⟩,hp2,fX,hbX⟩
     ·have h1:=(zdL (a:=b) (b:=a)).symm.trans (notF h1)
      refine brF ?_
      refine brF ?_
      have hp2:pl2 x l a b=true:=by unfold pl2;simp [zaA,h1]
      exact⟨(),⟨.cons rfl (.cons rfl (.cons rfl (.cons rfl (.cons rfl (.cons rfl (.cons rfl (.cons rfl (.nil)))))))),rfl⟩,hp2,fX,hbX⟩
    clear fX hbX
    rintro _ X ⟨hp2,fX,hbX⟩
    refine⟨Nat,fun d=>⟨[(1,i64 (locs:Nat)),(2,At0 L),(5,.slice (some ⟨bq,oq,none⟩) x.ev.length c),(6,i64 x.ev.length),(7,i64 (l:Nat)),(8,i64 (many:Nat)),(10,i64 (a:Nat)),(13,i64 (b:Nat)),(14,i64 (d:Nat))],[]⟩,fun d Z=>d≤x.ev.length∧(∀ i,i<d→pl3 x a b i=true)∧ExH Z L x (some ⟨bq,oq,none⟩) c∧Below w.heap.size w Z,fun d=>x.ev.length-d,0,⟨.cons rfl (.cons rfl (.cons rfl (.cons rfl (.cons rfl (.cons rfl (.cons rfl (.cons rfl (.cons rfl (.nil))))))))),rfl⟩,⟨Nat.zero_le _,fun i hi=>by omega,fX,hbX⟩,?_⟩
    clear fX hbX
    rintro d X ⟨hd,hallC,fX,hbX⟩
    dsimp only
    refine biE (fun hc=>?_) fun hc=>?_
    ·have hc:(d:Int)<(x.ev.length:Int):=of_decide_eq_true hc
     have hdn:d<x.ev.length:=by omega
     refine⟨_,zaf _,r_co fX,hlt fX,?_⟩
     refine Calls.mono (zbj hv.co (by omega) (by omega)) ?_
     rintro e U ⟨rfl,hbU⟩
     have fX:=zab hbU fX
     replace hbX:=hbX.trans (hbU.mono hbX.size)
     refine biE (fun h1=>?_) fun h1=>?_
     ·refine⟨_,zaf _,r_co fX,hlt fX,?_⟩
      refine Calls.mono (zbj hv.co (by omega) (by omega)) ?_
      rintro e U ⟨rfl,hbU⟩
      have fX:=zab hbU fX
      replace hbX:=hbX.trans (hbU.mono hbX.size)
      refine biE (fun h2=>?_) fun h2=>?_
      ·refine⟨_,zaf _,r_co fX,hlt fX,?_⟩
       refine Calls.mono (zbj hv.co (by omega) (by omega)) ?_
       rintro e U ⟨rfl,hbU⟩
       have fX:=zab hbU fX
       replace hbX:=hbX.trans (hbU.mono hbX.size)
       refine biE (fun h3=>?_) fun h3=>?_
       ·have h3:=notB h3
        exact⟨rb (badB b hbn (by unfold plB;rw [zcE hdn (show pl3 x a b d=false by unfold pl3;simp [h1,h2,h3]),Bool.and_false])).symm,hbX⟩
       ·have h3:=notF h3
        refine⟨((d+1:Nat):Int),(zad (by omega)).trans (by omega),?_⟩
        exact⟨d+1,⟨.cons rfl (.cons rfl (.cons rfl (.cons rfl (.cons rfl (.cons rfl (.cons rfl (.cons rfl (.cons rfl (.nil))))))))),rfl⟩,⟨hdn,zbi hallC (show pl3 x a b d=true by unfold pl3;simp [h1,h2,h3]),fX,hbX⟩,by show x.ev.length-(d+1)<x.ev.length-d;omega⟩
      ·refine brF ?_
       refine⟨((d+1:Nat):Int),(zad (by omega)).trans (by omega),?_⟩
       exact⟨d+1,⟨.cons rfl (.cons rfl (.cons rfl (.cons rfl (.cons rfl (.cons rfl (.cons rfl (.cons rfl (.cons rfl (.nil))))))))),rfl⟩,⟨hdn,zbi hallC (show pl3 x a b d=true by unfold pl3;simp [h1,h2]),fX,hbX⟩,by show x.ev.length-(d+1)<x.ev.length-d;omega⟩
     ·refine brF ?_
      refine brF ?_
      refine⟨((d+1:Nat):Int),(zad (by omega)).trans (by omega),?_⟩
      exact⟨d+1,⟨.cons rfl (.cons rfl (.cons rfl (.cons rfl (.cons rfl (.cons rfl (.cons rfl (.cons rfl (.cons rfl (.nil))))))))),rfl⟩,⟨hdn,zbi hallC (show pl3 x a b d=true by unfold pl3;simp [h1]),fX,hbX⟩,by show x.ev.length-(d+1)<x.ev.length-d;omega⟩
    ·have hc:¬ (d:Int)<(x.ev.length:Int):=of_decide_eq_false hc
     have hde:d=x.ev.length:=by omega
     clear hc
     refine⟨((b+1:Nat):Int),(zad (by omega)).trans (by omega),?_⟩
     exact⟨b+1,⟨.cons rfl (.cons rfl (.cons rfl (.cons rfl (.cons rfl (.cons rfl (.cons rfl (.cons rfl (.nil)))))))),rfl⟩,⟨hbn,zbi hallB (by unfold plB;rw [hp2,zc1 fun i hi=>hallC i (by omega)];rfl),fX,hbX⟩,by show x.ev.length-(b+1)<x.ev.length-b;omega⟩
   ·have hc:¬ (b:Int)<(x.ev.length:Int):=of_decide_eq_false hc
    have hbe:b=x.ev.length:=by omega
    clear hc
    refine⟨((a+1:Nat):Int),(zad (by omega)).trans (by omega),?_⟩
    exact⟨a+1,⟨.cons rfl (.cons rfl (.cons rfl (.cons rfl (.cons rfl (.cons rfl (.cons rfl (.nil))))))),rfl⟩,⟨han,zbi hallA (by rw [hpA,hp1,zc1 fun i hi=>hallB i (by omega)];rfl),fX,hbX⟩,by show x.ev.length-(a+1)<x.ev.length-a;omega⟩
  ·have hc:¬ (a:Int)<(x.ev.length:Int):=of_decide_eq_false hc
   have hae:a=x.ev.length:=by omega
   clear hc
   refine⟨((l+1:Nat):Int),(zad (by omega)).trans (by omega),?_⟩
   exact⟨l+1,⟨.cons rfl (.cons rfl (.cons rfl (.cons rfl (.cons rfl (.nil))))),rfl⟩,⟨hln,zbi hall (by rw [hs,zc1 fun i hi=>hallA i (by omega)]),fX,hbX⟩,by show 6-(l+1)<6-l;omega⟩
 ·have hc:¬ (l:Int)<6:=of_decide_eq_false hc
  have hle:l=6:=by omega
  clear hc
  subst hle
  exact⟨rb (zc1 hall).symm,hbX⟩
end
def pr1 (x:ExD) (a b:Nat):Bool:=hasQ x.po a b == poQ x a b
def pr2 (x:ExD) (a b:Nat):Bool := !hasQ x.rf a b||(isW x a&&(isR x b&&(zdF x a b&&decide ((evA x a).v=(evA x b).v))))
def pr3 (x:ExD) (a b:Nat):Bool := !hasQ x.co a b||(isW x a&&(isW x b&&zdF x a b))
def pr4 (x:ExD) (a b:Nat):Bool:=(!hasQ x.dt a b||(poQ x a b&&(isR x a&&isW x b)))&&((!hasQ x.ct a b||(poQ x a b&&isR x a))&&(!hasQ x.rm a b||(poQ x a b&&(isR x a&&(isW x b&&zdF x a b)))))
theorem zfa (x:ExD) (a b:Nat):zfb x a b=(pr1 x a b&&(pr2 x a b&&(pr3 x a b&&pr4 x a b))):=rfl
theorem zeF {a:Nat}:decide ((1:Int)<(a:Int)) = !decide (a≤1):=by
 rw [← decide_not]
 exact decide_eq_decide.2 (by omega)
theorem zla (x y:Operand) (a b:Bool) (w:World):(do eqGuard .neq 4 x y (.bool a) (.bool b);binOp .neq 4 (.bool a) (.bool b)).run Tryz.prog w = .ok (.bool (!decide (a=b))) w:=by
 have h:(Op.equal 4 (.bool a) (.bool b)).run Tryz.prog w = .ok (decide (a=b)) w:=zji 9999 a b w
 have h1:(eqGuard .neq 4 x y (.bool a) (.bool b)).run Tryz.prog w = .ok () w:=rfl
 rw [Sem.run_bind,h1]
 simp only [Result.andThen_ok,binOp,Sem.run_bind,h,Sem.run_pure]
abbrev zjP (x:ExD):List Value:=relC x.po++(relC x.rf++(relC x.co++(relC x.dt++(relC x.ct++relC x.rm))))
theorem znI {X:World} {g:Nat} {x:ExD} (h:X.heap[g]?=some (.cells (zjP x).toArray 27 (0,0))):SlR relE X (some ⟨g,0,none⟩) (zcp x) :=
 SlR.of_cells (hlt h) (by
  have:(zcp x).flatMap relE.enc=zjP x:=by
   unfold zcp zjP
   rw [List.flatMap_cons,List.flatMap_cons,List.flatMap_cons,List.flatMap_cons,List.flatMap_cons,List.flatMap_cons,List.flatMap_nil,List.append_nil];rfl
  rw [this]
  exact zaa h)
section
variable {w:World} {c:Nat} {x:ExD} {q:Option Addr}
theorem zmb (hv:ExV w x q):Calls Tryz.prog 9 #[.agg (exC x q c).toArray] w fun e w'=>e = .returned (.bool (zbH x))∧Below w.heap.size w w':=by
 rw [zkP ⟨hv.po,hv.rf,hv.co,hv.dt,hv.ct,hv.rm⟩]
 refine zal (S:=sg 278) (sgOk _) (args:=[.agg (exC x q c).toArray]) (.c .p (.c .p (.c .p (.c .p (.c .p (.c .p (.c (.s .p (.b (.l (.s .p (.s (.b (.c .p (.b (.l (.s .p (.s (.b (.c .p (.c .p (.c .p (.c .p (.c .p .p)))))) .p)))))) .p))))) (.c .p .p)))))))) Tryz.func9 rfl rfl (Nat.le_of_ble_eq_true rfl) rfl ?_
 obtain⟨L,hL⟩:=nm (w.heap.size)
 have h16:=hv.n
 refine⟨Unit,fun _=>⟨[(1,At0 L)],[]⟩,fun _ X=>ExH X L x q c∧Below w.heap.size w X,⟨(),⟨.cons (by rw [hL];rfl) .nil,rfl⟩,by rw [hL];exact hnew w _,(Below.refl _ w).alloc (Nat.le_refl _) _⟩,?_⟩
 rintro _ X ⟨fX,hbX⟩
 refine⟨Unit,fun _=>⟨[(1,At0 L),(3,.slice q x.ev.length c),(4,i64 x.ev.length)],[]⟩,fun _ Z=>ExH Z L x q c∧Below w.heap.size w Z,?_,?_⟩
 ·have dX:Below X.heap.size X X.drew:=(Below.refl _ _).drew
  refine DrawE.ord [] [0,1,2,3,4,5,6] (by kernel_rfl) ?_
  have fX:=zab dX fX
  refine⟨_,zaT (zaa fX),?_⟩
  refine⟨_,zaT (zaa fX),?_⟩
  exact⟨(),⟨.cons rfl (.cons rfl (.cons rfl (.nil))),rfl⟩,fX,hbX.trans (dX.mono hbX.size)⟩
 clear fX hbX
 rintro _ X ⟨fX,hbX⟩
 refine⟨Unit,fun _=>⟨[(1,At0 L),(3,.slice q x.ev.length c),(4,i64 x.ev.length),(5,zew x.ev)],[]⟩,fun _ Z=>ExH Z L x q c∧Below w.heap.size w Z,?_,?_⟩
 ·refine Calls.mono (zjb (hv.below hbX).ev (by omega)) ?_
  rintro e U ⟨rfl,hbU⟩
  exact⟨(),⟨.cons rfl (.cons rfl (.cons rfl (.cons rfl (.nil)))),rfl⟩,zab hbU fX,hbX.trans (hbU.mono hbX.size)⟩
 clear fX hbX
 rintro _ X ⟨fX,hbX⟩
 refine⟨Nat,fun locs=>⟨[(1,At0 L),(3,.slice q x.ev.length c),(4,i64 x.ev.length),(5,i64 (locs:Nat))],[]⟩,fun locs Z=>zbm x.ev=some locs∧ExH Z L x q c∧Below w.heap.size w Z,?_,?_⟩
 ·cases hh:zbm x.ev with
  | none =>
   have e1:zew x.ev=i64 (-1):=by unfold zew;rw [hh]
   rw [e1]
   refine brE (decide_eq_true (by decide)) ?_
   exact⟨rb (by unfold zc7;rw [hh]),hbX⟩
  | some locs =>
   have e1:zew x.ev=i64 (locs:Nat):=by unfold zew;rw [hh]
   rw [e1]
   refine brN (decide_eq_false (by omega)) ?_
   exact⟨locs,⟨.cons rfl (.cons rfl (.cons rfl (.cons rfl (.nil)))),rfl⟩,rfl,fX,hbX⟩
 clear fX hbX
 rintro locs X ⟨hh,fX,hbX⟩
 obtain⟨hl,h48,h1,h6,hev⟩:=(zev x.ev locs).1 hh
 have hle:locs≤x.ev.length:=by rw [hl];exact zi9 _
 have hright:zc7 x=(za3 x&&(zdC x.ev.length (zfb x)&&((List.range x.ev.length).all (zdT x)&&ze6 x locs))):=by unfold zc7;rw [hh]
 obtain⟨bq,oq,hqe,hbq,hat⟩:=zdk hv.ev (by omega)
 subst hqe
 refine⟨Nat,fun g=>⟨[(1,At0 L),(3,.slice (some ⟨bq,oq,none⟩) x.ev.length c),(4,i64 x.ev.length),(5,i64 (locs:Nat)),(6,.slice (some ⟨g,0,none⟩) 6 6)],[]⟩,fun g Z=>Z.heap[g]?=some (.cells (zjP x).toArray 27 (0,0))∧ExH Z L x (some ⟨bq,oq,none⟩) c∧Below w.heap.size w Z,?_,?_⟩
 ·have hba:∀ (A:World) (o:Obj),Below A.heap.size A (A.alloc o):=fun A o=>(Below.refl _ _).alloc (Nat.le_refl _) _
  refine⟨relC x.po,zaf _,zaV fX (i:=0) (by decide) rfl,hlt fX,?_⟩
  refine⟨relC x.rf,zaf _,zaV fX (i:=1) (by decide) rfl,hlt fX,?_⟩
  refine⟨relC x.co,zaf _,zaV fX (i:=2) (by decide) rfl,hlt fX,?_⟩
  refine⟨relC x.dt,zaf _,zaV fX (i:=3) (by decide) rfl,hlt fX,?_⟩
  refine⟨relC x.ct,zaf _,zaV fX (i:=4) (by decide) rfl,hlt fX,?_⟩
  refine⟨relC x.rm,zaf _,zaV fX (i:=5) (by decide) rfl,hlt fX,?_⟩
  refine⟨⟨by decide,by decide,rfl⟩,zjP x,by kernel_rfl,?_⟩
  exact⟨X.heap.size,⟨.cons rfl (.cons rfl (.cons rfl (.cons rfl (.cons rfl (.nil))))),rfl⟩,hnew X _,hold _ fX,hbX.alloc hbX.size _⟩
 clear fX hbX
 rintro g X ⟨fg,fX,hbX⟩
 have hrels:za3 x=(zcp x).all (okX x):=rfl
 refine⟨Unit,fun _=>⟨[(1,At0 L),(3,.slice (some ⟨bq,oq,none⟩) x.ev.length c),(4,i64 x.ev.length),(5,i64 (locs:Nat))],[]⟩,fun _ Z=>za3 x=true∧ExH Z L x (some ⟨bq,oq,none⟩) c∧Below w.heap.size w Z,?_,?_⟩
 ·refine⟨Nat,fun k=>⟨[(1,At0 L),(3,.slice (some ⟨bq,oq,none⟩) x.ev.length c),(4,i64 x.ev.length),(5,i64 (locs:Nat)),(6,.slice (some ⟨g,0,none⟩) 6 6),(7,i64 (k:Nat))],[]⟩,fun k Z=>k≤6∧((zcp x).take k).all (okX x)=true∧Z.heap[g]?=some (.cells (zjP x).toArray 27 (0,0))∧ExH Z L x (some ⟨bq,oq,none⟩) c∧Below w.heap.size w Z,fun k=>6-k,0,⟨.cons rfl (.cons rfl (.cons rfl (.cons rfl (.cons rfl (.cons rfl (.nil)))))),rfl⟩,⟨Nat.zero_le _,rfl,fg,fX,hbX⟩,?_⟩
  clear fg fX hbX
  rintro k X ⟨hk,hall,fg,fX,hbX⟩
  dsimp only
  refine biE (fun hc=>?_) fun hc=>?_
  ·have hc:(k:Int)<6:=of_decide_eq_true hc
   have hk6:k<(zcp x).length:=(by omega:k<6)
   obtain⟨r,hr⟩:∃ r,(zcp x)[k]=r:=⟨_,rfl⟩
   have hrm:r∈zcp x:=by rw [← hr];exact List.getElem_mem hk6
   have hrw:WrdR r.to:=by
    have:=hv.rel (i:=k) (by omega)
    rw [List.getD_eq_getElem?_getD,List.getElem?_eq_getElem hk6,Option.getD_some,hr] at this
    exact this
   have htk:(zcp x).take (k+1)=(zcp x).take k++[r]:=by rw [List.take_succ_eq_append_getElem hk6,hr]
   obtain⟨bp,op,hqp,hbp,hatr⟩:=(znI fg).at hk6
   obtain⟨rfl,rfl⟩:g=bp∧op=0:=by simpa [eq_comm] using hqp
   have hck:=hatr k hk6
   rw [hr] at hck
   have bad:∀ {Z:World},Below w.heap.size w Z→okX x r=false→(Ending.returned (.bool false)=Ending.returned (.bool (zc7 x))∧Below w.heap.size w Z):=fun {Z} hb h=>⟨rb (by
    have:za3 x=false:=by
     rw [hrels,List.all_eq_false]
     exact⟨r,hrm,by rw [h];decide⟩
    rw [hright,this];rfl),hb⟩
   refine⟨k,rfl,(by omega:k<6),?_⟩
   refine⟨relC r,zaf _,hck,hbp,?_⟩
   refine Calls.mono (zhN hrw) ?_
   rintro e U ⟨rfl,hbU⟩
   have bU:=hbX.trans (hbU.mono hbX.size)
   refine biE (fun h2=>?_) fun h2=>?_
   ·have h2:okR r=false:=notB h2
    refine brT ?_
    exact bad bU (by unfold okX;rw [h2,Bool.and_false])
   have h2:okR r=true:=notF h2
   refine⟨k,rfl,(by omega:k<6),?_⟩
   refine⟨i64 r.n,by have:=zac (zag hbU hck) (i:=0) (v:=i64 r.n) rfl;exact this,?_⟩
   refine biE (fun h3=>?_) fun h3=>?_
   ·have h3:¬ r.n=(x.ev.length:Int):=of_decide_eq_false (notB h3)
    exact bad bU (by unfold okX;rw [decide_eq_false h3];rfl)
   have h3:r.n=(x.ev.length:Int):=of_decide_eq_true (notF h3)
   refine⟨((k+1:Nat):Int),(zad (by omega)).trans (by omega),?_⟩
   refine⟨k+1,⟨.cons rfl (.cons rfl (.cons rfl (.cons rfl (.cons rfl (.cons rfl (.nil)))))),rfl⟩,⟨by omega,?_,zab hbU fg,zab hbU fX,bU⟩,by show 6-(k+1)<6-k;omega⟩
   rw [htk,List.all_append,hall]
   show (true&&(okX x r&&true))=true
   unfold okX
   rw [decide_eq_true h3,h2];rfl
  ·have hc:¬ (k:Int)<6:=of_decide_eq_false hc
   obtain rfl:k=6:=by omega
   exact⟨(),⟨.cons rfl (.cons rfl (.cons rfl (.cons rfl (.nil)))),rfl⟩,hall,fX,hbX⟩
 clear fg fX hbX
 rintro _ X ⟨hrr,fX,hbX⟩
 rw [hrr,Bool.true_and] at hright
 have hall:∀ r∈zcp x,r.n=x.ev.length∧okR r=true:=fun r hr=>by
  rw [hrels,List.all_eq_true] at hrr
  have:=hrr r hr
  unfold okX at this
  rw [Bool.and_eq_true,decide_eq_true_eq] at this
  exact this
 have nrf:=(hall x.rf (by simp)).1
 have nco:=(hall x.co (by simp)).1
 have nrm:=(hall x.rm (by simp)).1
 clear hall hrr hrels
 refine⟨Unit,fun _=>⟨[(1,At0 L),(3,.slice (some ⟨bq,oq,none⟩) x.ev.length c),(4,i64 x.ev.length),(5,i64 (locs:Nat))],[]⟩,fun _ Z=>zdC x.ev.length (zfb x)=true∧ExH Z L x (some ⟨bq,oq,none⟩) c∧Below w.heap.size w Z,?_,?_⟩
 ·refine⟨Nat,fun a=>⟨[(1,At0 L),(3,.slice (some ⟨bq,oq,none⟩) x.ev.length c),(4,i64 x.ev.length),(5,i64 (locs:Nat)),(8,i64 (a:Nat))],[]⟩,fun a Z=>a≤x.ev.length∧(∀ i,i<a→((List.range x.ev.length).all fun j=>zfb x i j)=true)∧ExH Z L x (some ⟨bq,oq,none⟩) c∧Below w.heap.size w Z,fun a=>x.ev.length-a,0,⟨.cons rfl (.cons rfl (.cons rfl (.cons rfl (.cons rfl (.nil))))),rfl⟩,⟨Nat.zero_le _,fun i hi=>by omega,fX,hbX⟩,?_⟩
  clear fX hbX
  rintro a X ⟨ha,hallA,fX,hbX⟩
  dsimp only
  refine biE (fun hc=>?_) fun hc=>?_
  ·have hc:(a:Int)<(x.ev.length:Int):=of_decide_eq_true hc
   have han:a<x.ev.length:=by omega
   refine⟨Unit,fun _=>⟨[(1,At0 L),(3,.slice (some ⟨bq,oq,none⟩) x.ev.length c),(4,i64 x.ev.length),(5,i64 (locs:Nat)),(8,i64 (a:Nat)),(9,i64 (0:Nat))],[]⟩,fun _ Z=>ExH Z L x (some ⟨bq,oq,none⟩) c∧Below w.heap.size w Z,⟨(),⟨.cons rfl (.cons rfl (.cons rfl (.cons rfl (.cons rfl (.cons rfl (.nil)))))),rfl⟩,fX,hbX⟩,?_⟩
   clear fX hbX
   rintro _ X ⟨fX,hbX⟩
   refine⟨Nat,fun d=>⟨[(1,At0 L),(3,.slice (some ⟨bq,oq,none⟩) x.ev.length c),(4,i64 x.ev.length),(5,i64 (locs:Nat)),(8,i64 (a:Nat)),(9,i64 (d:Nat))],[]⟩,fun d Z=>d≤x.ev.length∧(∀ i,i<d→zfb x a i=true)∧ExH Z L x (some ⟨bq,oq,none⟩) c∧Below w.heap.size w Z,fun d=>x.ev.length-d,0,⟨.cons rfl (.cons rfl (.cons rfl (.cons rfl (.cons rfl (.cons rfl (.nil)))))),rfl⟩,⟨Nat.zero_le _,fun i hi=>by omega,fX,hbX⟩,?_⟩
   clear fX hbX
   rintro d X ⟨hd,hallD,fX,hbX⟩
   dsimp only
   refine biE (fun hc=>?_) fun hc=>?_
   ·have hc:(d:Int)<(x.ev.length:Int):=of_decide_eq_true hc
    have hdn:d<x.ev.length:=by omega
    have badP:∀ {Z:World},Below w.heap.size w Z→zfb x a d=false→(Ending.returned (.bool false)=Ending.returned (.bool (zc7 x))∧Below w.heap.size w Z):=fun {Z} hb h=>⟨rb (by
     have:zdC x.ev.length (zfb x)=false:=zcE han (zcE hdn h)
     rw [hright,this];rfl),hb⟩
    have badpr1:∀ {Z:World},Below w.heap.size w Z→pr1 x a d=false→(Ending.returned (.bool false)=Ending.returned (.bool (zc7 x))∧Below w.heap.size w Z):=fun {Z} hb h=>badP hb (by rw [zfa,h];rfl)
    refine⟨Unit,fun _=>⟨[(1,At0 L),(3,.slice (some ⟨bq,oq,none⟩) x.ev.length c),(4,i64 x.ev.length),(5,i64 (locs:Nat)),(8,i64 (a:Nat)),(9,i64 (d:Nat)),(10,.bool (poQ x a d))],[]⟩,fun _ Z=>ExH Z L x (some ⟨bq,oq,none⟩) c∧Below w.heap.size w Z,?_,?_⟩
    ·have dX:Below X.heap.size X X.drew:=(Below.refl _ _).drew
     refine DrawE.ord [] [0,1,2,3,4,5,6,7,8,9,10,11,12,13,14,15,16,17,18,19,20,21,22,23,24] (by kernel_rfl) ?_
     have fX:=zab dX fX
     replace hbX:=hbX.trans (dX.mono hbX.size)
     clear dX
     refine⟨a,rfl,by omega,?_⟩
     refine⟨_,zly (zag hbX (hat a (by omega))),?_⟩
     refine biE (fun h1=>?_) fun h1=>?_
     ·refine⟨a,rfl,by omega,?_⟩
      refine⟨_,zly (zag hbX (hat a (by omega))),?_⟩
      refine⟨d,rfl,by omega,?_⟩
      refine⟨_,zly (zag hbX (hat d (by omega))),?_⟩
      refine biE (fun h2=>?_) fun h2=>?_
      ·have e5:decide ((a:Int)<(d:Int))=poQ x a d:=(by unfold poQ;simp [h1,h2])
       exact⟨(),⟨.cons rfl (.cons rfl (.cons rfl (.cons rfl (.cons rfl (.cons rfl (.cons (by rw [← e5];rfl) .nil)))))),rfl⟩,fX,hbX⟩
      ·have e5:false=poQ x a d:=by unfold poQ;simp [h1,h2]
       exact⟨(),⟨.cons rfl (.cons rfl (.cons rfl (.cons rfl (.cons rfl (.cons rfl (.cons (by rw [← e5];rfl) .nil)))))),rfl⟩,fX,hbX⟩
     ·refine brF ?_
      have e5:false=poQ x a d:=by unfold poQ;simp [h1]
      exact⟨(),⟨.cons rfl (.cons rfl (.cons rfl (.cons rfl (.cons rfl (.cons rfl (.cons (by rw [← e5];rfl) .nil)))))),rfl⟩,fX,hbX⟩
    clear fX hbX
    rintro _ X ⟨fX,hbX⟩
    refine⟨Unit,fun _=>⟨[(1,At0 L),(3,.slice (some ⟨bq,oq,none⟩) x.ev.length c),(4,i64 x.ev.length),(5,i64 (locs:Nat)),(8,i64 (a:Nat)),(9,i64 (d:Nat)),(10,.bool (poQ x a d)),(11,.bool (zdF x a d))],[]⟩,fun _ Z=>ExH Z L x (some ⟨bq,oq,none⟩) c∧Below w.heap.size w Z,?_,?_⟩
    ·have dX:Below X.heap.size X X.drew:=(Below.refl _ _).drew
     refine DrawE.ord [] [0,1,2,3,4,5,6,7,8,9,10,11] (by kernel_rfl) ?_
     have fX:=zab dX fX
     replace hbX:=hbX.trans (dX.mono hbX.size)
     clear dX
     refine⟨a,rfl,by omega,?_⟩
     refine⟨_,zpM (zag hbX (hat a (by omega))),?_⟩
     refine⟨d,rfl,by omega,?_⟩
     refine⟨_,zpM (zag hbX (hat d (by omega))),?_⟩
     have e5:_=zdF x a d:=(zc5 (x:=(evA x a).l) (y:=(evA x d).l)).trans (by unfold zdF;simp [])
     exact⟨(),⟨.cons rfl (.cons rfl (.cons rfl (.cons rfl (.cons rfl (.cons rfl (.cons rfl (.cons (by rw [← e5];rfl) .nil))))))),rfl⟩,fX,hbX⟩
    clear fX hbX
    rintro _ X ⟨fX,hbX⟩
    refine⟨Unit,fun _=>⟨[(1,At0 L),(3,.slice (some ⟨bq,oq,none⟩) x.ev.length c),(4,i64 x.ev.length),(5,i64 (locs:Nat)),(8,i64 (a:Nat)),(9,i64 (d:Nat)),(10,.bool (poQ x a d)),(11,.bool (zdF x a d))],[]⟩,fun _ Z=>pr1 x a d=true∧ExH Z L x (some ⟨bq,oq,none⟩) c∧Below w.heap.size w Z,?_,?_⟩
    ·refine⟨_,zaf _,r_po fX,hlt fX,?_⟩
     refine Calls.mono (zbj hv.po (by omega) (by omega)) ?_
     rintro e U ⟨rfl,hbU⟩
     have fX:=zab hbU fX
     replace hbX:=hbX.trans (hbU.mono hbX.size)
     refine⟨_,fun w=>zla _ _ (hasQ (x.po) a d) (poQ x a d) w,?_⟩
     refine biE (fun h1=>?_) fun h1=>?_
     ·have h1:=notB h1
      exact badpr1 hbX (by unfold pr1;simp [zaA,isW,isR,h1])
     ·have h1:=notF h1
      exact⟨(),⟨.cons rfl (.cons rfl (.cons rfl (.cons rfl (.cons rfl (.cons rfl (.cons rfl (.cons rfl (.nil)))))))),rfl⟩,by unfold pr1;simp [zaA,isW,isR,h1],fX,hbX⟩
    clear fX hbX
    rintro _ X ⟨p1,fX,hbX⟩
    have badpr2:∀ {Z:World},Below w.heap.size w Z→pr2 x a d=false→(Ending.returned (.bool false)=Ending.returned (.bool (zc7 x))∧Below w.heap.size w Z):=fun {Z} hb h=>badP hb (by rw [zfa,h,p1];rfl)
    refine⟨Unit,fun _=>⟨[(1,At0 L),(3,.slice (some ⟨bq,oq,none⟩) x.ev.length c),(4,i64 x.ev.length),(5,i64 (locs:Nat)),(8,i64 (a:Nat)),(9,i64 (d:Nat)),(10,.bool (poQ x a d)),(11,.bool (zdF x a d))],[]⟩,fun _ Z=>pr2 x a d=true∧ExH Z L x (some ⟨bq,oq,none⟩) c∧Below w.heap.size w Z,?_,?_⟩
    ·have dX:Below X.heap.size X X.drew:=(Below.refl _ _).drew
     refine DrawE.ord [] [0,1,2,3,4,5,6,7,8,9,10,11,12,13,14,15,16,17,18,19,20,21,22,23,24,25,26,27,28,29,30,31,32,33,34,35,36,37] (by kernel_rfl) ?_
     have fX:=zab dX fX
     replace hbX:=hbX.trans (dX.mono hbX.size)
     clear dX
     refine⟨_,zaf _,r_rf fX,hlt fX,?_⟩
     refine Calls.mono (zbj hv.rf (by omega) (by omega)) ?_
     rintro e U ⟨rfl,hbU⟩
     refine⟨hbU,?_⟩
     have fX:=zab hbU fX
     replace hbX:=hbX.trans (hbU.mono hbX.size)
     refine biE (fun h1=>?_) fun h1=>?_
     ·refine⟨a,rfl,by omega,?_⟩
      refine⟨_,zdl (zag hbX (hat a (by omega))),?_⟩
      refine biE (fun h2=>?_) fun h2=>?_
      ·have h2:=zdE.symm.trans h2
       refine⟨d,rfl,by omega,?_⟩
       refine⟨_,zdl (zag hbX (hat d (by omega))),?_⟩
       refine biE (fun h3=>?_) fun h3=>?_
       ·have h3:=zc9.symm.trans h3
        refine biE (fun h4=>?_) fun h4=>?_
        ·refine⟨a,rfl,by omega,?_⟩
         refine⟨_,zmX (zag hbX (hat a (by omega))),?_⟩
         refine⟨d,rfl,by omega,?_⟩
         refine⟨_,zmX (zag hbX (hat d (by omega))),?_⟩
         refine biE (fun h5=>?_) fun h5=>?_
         ·have h5:=zc5.symm.trans (notB h5)
          exact badpr2 hbX (by unfold pr2;simp [zaA,isW,isR,h1,h2,h3,h4,h5])
         ·have h5:=zc5.symm.trans (notF h5)
          exact⟨(),⟨.cons rfl (.cons rfl (.cons rfl (.cons rfl (.cons rfl (.cons rfl (.cons rfl (.cons rfl (.nil)))))))),rfl⟩,by unfold pr2;simp [zaA,isW,isR,h1,h2,h3,h4,h5],fX,hbX⟩
        ·refine brT ?_
         exact badpr2 hbX (by unfold pr2;simp [zaA,isW,isR,h1,h2,h3,h4])
       ·have h3:=zc9.symm.trans h3
        refine brF ?_
        refine brT ?_
        exact badpr2 hbX (by unfold pr2;simp [zaA,isW,isR,h1,h2,h3])
      ·have h2:=zdE.symm.trans h2
       refine brF ?_
       refine brF ?_
       refine brT ?_
       exact badpr2 hbX (by unfold pr2;simp [zaA,isW,isR,h1,h2])
     ·refine brF ?_
      exact⟨(),⟨.cons rfl (.cons rfl (.cons rfl (.cons rfl (.cons rfl (.cons rfl (.cons rfl (.cons rfl (.nil)))))))),rfl⟩,by unfold pr2;simp [zaA,isW,isR,h1],fX,hbX⟩
    clear fX hbX
    rintro _ X ⟨p2,fX,hbX⟩
    have badpr3:∀ {Z:World},Below w.heap.size w Z→pr3 x a d=false→(Ending.returned (.bool false)=Ending.returned (.bool (zc7 x))∧Below w.heap.size w Z):=fun {Z} hb h=>badP hb (by rw [zfa,h,p1,p2];rfl)
    refine⟨Unit,fun _=>⟨[(1,At0 L),(3,.slice (some ⟨bq,oq,none⟩) x.ev.length c),(4,i64 x.ev.length),(5,i64 (locs:Nat)),(8,i64 (a:Nat)),(9,i64 (d:Nat)),(10,.bool (poQ x a d)),(11,.bool (zdF x a d))],[]⟩,fun _ Z=>pr3 x a d=true∧ExH Z L x (some ⟨bq,oq,none⟩) c∧Below w.heap.size w Z,?_,?_⟩
    ·refine⟨_,zaf _,r_co fX,hlt fX,?_⟩
     refine Calls.mono (zbj hv.co (by omega) (by omega)) ?_
     rintro e U ⟨rfl,hbU⟩
     have fX:=zab hbU fX
     replace hbX:=hbX.trans (hbU.mono hbX.size)
     refine biE (fun h1=>?_) fun h1=>?_
     ·refine⟨a,rfl,by omega,?_⟩
      refine⟨_,zdl (zag hbX (hat a (by omega))),?_⟩
      refine biE (fun h2=>?_) fun h2=>?_
      ·have h2:=zdE.symm.trans h2
       refine⟨d,rfl,by omega,?_⟩
       refine⟨_,zdl (zag hbX (hat d (by omega))),?_⟩
       refine biE (fun h3=>?_) fun h3=>?_
       ·have h3:=zdE.symm.trans h3
        refine biE (fun h4=>?_) fun h4=>?_
        ·have h4:=notB h4
         exact badpr3 hbX (by unfold pr3;simp [zaA,isW,isR,h1,h2,h3,h4])
        ·have h4:=notF h4
         exact⟨(),⟨.cons rfl (.cons rfl (.cons rfl (.cons rfl (.cons rfl (.cons rfl (.cons rfl (.cons rfl (.nil)))))))),rfl⟩,by unfold pr3;simp [zaA,isW,isR,h1,h2,h3,h4],fX,hbX⟩
       ·have h3:=zdE.symm.trans h3
        refine brT ?_
        exact badpr3 hbX (by unfold pr3;simp [zaA,isW,isR,h1,h2,h3])
      ·have h2:=zdE.symm.trans h2
       refine brF ?_
       refine brT ?_
       exact badpr3 hbX (by unfold pr3;simp [zaA,isW,isR,h1,h2])
     ·refine brF ?_
      exact⟨(),⟨.cons rfl (.cons rfl (.cons rfl (.cons rfl (.cons rfl (.cons rfl (.cons rfl (.cons rfl (.nil)))))))),rfl⟩,by unfold pr3;simp [zaA,isW,isR,h1],fX,hbX⟩
    clear fX hbX
    rintro _ X ⟨p3,fX,hbX⟩
    have badpr4:∀ {Z:World},Below w.heap.size w Z→pr4 x a d=false→(Ending.returned (.bool false)=Ending.returned (.bool (zc7 x))∧Below w.heap.size w Z):=fun {Z} hb h=>badP hb (by rw [zfa,h,p1,p2,p3];rfl)
    have good:pr4 x a d=true→∀ i,i<d+1→zfb x a i=true:=fun p4=>zbi hallD (by rw [zfa,p1,p2,p3,p4];rfl)
    refine⟨_,zaf _,r_dt fX,hlt fX,?_⟩
    refine Calls.mono (zbj hv.dt (by omega) (by omega)) ?_
    rintro e U ⟨rfl,hbU⟩
    have fX:=zab hbU fX
    replace hbX:=hbX.trans (hbU.mono hbX.size)
    refine biE (fun h1=>?_) fun h1=>?_
    ·refine biE (fun h2=>?_) fun h2=>?_
     ·refine⟨a,rfl,by omega,?_⟩
      refine⟨_,zdl (zag hbX (hat a (by omega))),?_⟩
      refine biE (fun h3=>?_) fun h3=>?_
      ·have h3:=zc9.symm.trans h3
       refine⟨d,rfl,by omega,?_⟩
       refine⟨_,zdl (zag hbX (hat d (by omega))),?_⟩
       refine biE (fun h4=>?_) fun h4=>?_
       ·have h4:=zdE.symm.trans (notB h4)
        refine brT ?_
        refine brT ?_
        exact badpr4 hbX (by unfold pr4;simp [zaA,isW,isR,h1,h2,h3,h4])
       ·have h4:=zdE.symm.trans (notF h4)
        refine⟨_,zaf _,r_ct fX,hlt fX,?_⟩
        refine Calls.mono (zbj hv.ct (by omega) (by omega)) ?_
        rintro e U ⟨rfl,hbU⟩
        have fX:=zab hbU fX
        replace hbX:=hbX.trans (hbU.mono hbX.size)
        refine biE (fun h5=>?_) fun h5=>?_
        ·refine biE (fun h6=>?_) fun h6=>?_
         ·refine⟨a,rfl,by omega,?_⟩
          refine⟨_,zdl (zag hbX (hat a (by omega))),?_⟩
          refine biE (fun h7=>?_) fun h7=>?_
          ·have h7:=zc9.symm.trans (notB h7)
           cases h3.symm.trans h7
          ·have h7:=zc9.symm.trans (notF h7)
           refine⟨_,zaf _,r_rm fX,hlt fX,?_⟩
           refine Calls.mono (zbj hv.rm (by omega) (by omega)) ?_
           rintro e U ⟨rfl,hbU⟩
           have fX:=zab hbU fX
           replace hbX:=hbX.trans (hbU.mono hbX.size)
           refine biE (fun h8=>?_) fun h8=>?_
           ·refine biE (fun h9=>?_) fun h9=>?_
            ·refine⟨a,rfl,by omega,?_⟩
             refine⟨_,zdl (zag hbX (hat a (by omega))),?_⟩
             refine biE (fun h10=>?_) fun h10=>?_
             ·have h10:=zc9.symm.trans h10
              refine⟨d,rfl,by omega,?_⟩
              refine⟨_,zdl (zag hbX (hat d (by omega))),?_⟩
              refine biE (fun h11=>?_) fun h11=>?_
              ·have h11:=zdE.symm.trans h11
               refine biE (fun h12=>?_) fun h12=>?_
               ·have h12:=notB h12
                exact badpr4 hbX (by unfold pr4;simp [zaA,isW,isR,h1,h2,h3,h4,h5,h6,h7,h8,h9,h10,h11,h12])
               ·have h12:=notF h12
                refine⟨((d+1:Nat):Int),(zad (by omega)).trans (by omega),?_⟩
                exact⟨d+1,⟨.cons rfl (.cons rfl (.cons rfl (.cons rfl (.cons rfl (.cons rfl (.nil)))))),rfl⟩,⟨hdn,good (by unfold pr4;simp [zaA,isW,isR,h1,h2,h3,h4,h5,h6,h7,h8,h9,h10,h11,h12]),fX,hbX⟩,by show x.ev.length-(d+1)<x.ev.length-d;omega⟩
              ·have h11:=zdE.symm.trans h11
               cases h4.symm.trans h11
             ·have h10:=zc9.symm.trans h10
              cases h3.symm.trans h10
            ·cases h2.symm.trans h9
           ·refine brF ?_
            refine⟨((d+1:Nat):Int),(zad (by omega)).trans (by omega),?_⟩
            exact⟨d+1,⟨.cons rfl (.cons rfl (.cons rfl (.cons rfl (.cons rfl (.cons rfl (.nil)))))),rfl⟩,⟨hdn,good (by unfold pr4;simp [zaA,isW,isR,h1,h2,h3,h4,h5,h6,h7,h8]),fX,hbX⟩,by show x.ev.length-(d+1)<x.ev.length-d;omega⟩
         ·cases h2.symm.trans h6
        ·refine brF ?_
         refine⟨_,zaf _,r_rm fX,hlt fX,?_⟩
         refine Calls.mono (zbj hv.rm (by omega) (by omega)) ?_
         rintro e U ⟨rfl,hbU⟩
         have fX:=zab hbU fX
         replace hbX:=hbX.trans (hbU.mono hbX.size)
         refine biE (fun h13=>?_) fun h13=>?_
         ·refine biE (fun h14=>?_) fun h14=>?_
          ·refine⟨a,rfl,by omega,?_⟩
           refine⟨_,zdl (zag hbX (hat a (by omega))),?_⟩
           refine biE (fun h15=>?_) fun h15=>?_
           ·have h15:=zc9.symm.trans h15
            refine⟨d,rfl,by omega,?_⟩
            refine⟨_,zdl (zag hbX (hat d (by omega))),?_⟩
            refine biE (fun h16=>?_) fun h16=>?_
            ·have h16:=zdE.symm.trans h16
             refine biE (fun h17=>?_) fun h17=>?_
             ·have h17:=notB h17
              exact badpr4 hbX (by unfold pr4;simp [zaA,isW,isR,h1,h2,h3,h4,h5,h13,h14,h15,h16,h17])
             ·have h17:=notF h17
              refine⟨((d+1:Nat):Int),(zad (by omega)).trans (by omega),?_⟩
              exact⟨d+1,⟨.cons rfl (.cons rfl (.cons rfl (.cons rfl (.cons rfl (.cons rfl (.nil)))))),rfl⟩,⟨hdn,good (by unfold pr4;simp [zaA,isW,isR,h1,h2,h3,h4,h5,h13,h14,h15,h16,h17]),fX,hbX⟩,by show x.ev.length-(d+1)<x.ev.length-d;omega⟩
            ·have h16:=zdE.symm.trans h16
             cases h4.symm.trans h16
           ·have h15:=zc9.symm.trans h15
            cases h3.symm.trans h15
          ·cases h2.symm.trans h14
         ·refine brF ?_
          refine⟨((d+1:Nat):Int),(zad (by omega)).trans (by omega),?_⟩
          exact⟨d+1,⟨.cons rfl (.cons rfl (.cons rfl (.cons rfl (.cons rfl (.cons rfl (.nil)))))),rfl⟩,⟨hdn,good (by unfold pr4;simp [zaA,isW,isR,h1,h2,h3,h4,h5,h13]),fX,hbX⟩,by show x.ev.length-(d+1)<x.ev.length-d;omega⟩
      ·have h3:=zc9.symm.trans h3
       refine brT ?_
       refine brT ?_
       refine brT ?_
       exact badpr4 hbX (by unfold pr4;simp [zaA,isW,isR,h1,h2,h3])
     ·refine brF ?_
      refine brT ?_
      refine brT ?_
      refine brT ?_
      exact badpr4 hbX (by unfold pr4;simp [zaA,isW,isR,h1,h2])
    ·refine brF ?_
     refine⟨_,zaf _,r_ct fX,hlt fX,?_⟩
     refine Calls.mono (zbj hv.ct (by omega) (by omega)) ?_
     rintro e U ⟨rfl,hbU⟩
     have fX:=zab hbU fX
     replace hbX:=hbX.trans (hbU.mono hbX.size)
     refine biE (fun h18=>?_) fun h18=>?_
     ·refine biE (fun h19=>?_) fun h19=>?_
      ·refine⟨a,rfl,by omega,?_⟩
       refine⟨_,zdl (zag hbX (hat a (by omega))),?_⟩
       refine biE (fun h20=>?_) fun h20=>?_
       ·have h20:=zc9.symm.trans (notB h20)
        refine brT ?_
        exact badpr4 hbX (by unfold pr4;simp [zaA,isW,isR,h1,h18,h19,h20])
       ·have h20:=zc9.symm.trans (notF h20)
        refine⟨_,zaf _,r_rm fX,hlt fX,?_⟩
        refine Calls.mono (zbj hv.rm (by omega) (by omega)) ?_
        rintro e U ⟨rfl,hbU⟩
        have fX:=zab hbU fX
        replace hbX:=hbX.trans (hbU.mono hbX.size)
        refine biE (fun h21=>?_) fun h21=>?_
        ·refine biE (fun h22=>?_) fun h22=>?_
         ·refine⟨a,rfl,by omega,?_⟩
          refine⟨_,zdl (zag hbX (hat a (by omega))),?_⟩
          refine biE (fun h23=>?_) fun h23=>?_
          ·have h23:=zc9.symm.trans h23
           refine⟨d,rfl,by omega,?_⟩
           refine⟨_,zdl (zag hbX (hat d (by omega))),?_⟩
           refine biE (fun h24=>?_) fun h24=>?_
           ·have h24:=zdE.symm.trans h24
            refine biE (fun h25=>?_) fun h25=>?_
            ·have h25:=notB h25
             exact badpr4 hbX (by unfold pr4;simp [zaA,isW,isR,h1,h18,h19,h20,h21,h22,h23,h24,h25])
            ·have h25:=notF h25
             refine⟨((d+1:Nat):Int),(zad (by omega)).trans (by omega),?_⟩
             exact⟨d+1,⟨.cons rfl (.cons rfl (.cons rfl (.cons rfl (.cons rfl (.cons rfl (.nil)))))),rfl⟩,⟨hdn,good (by unfold pr4;simp [zaA,isW,isR,h1,h18,h19,h20,h21,h22,h23,h24,h25]),fX,hbX⟩,by show x.ev.length-(d+1)<x.ev.length-d;omega⟩
           ·have h24:=zdE.symm.trans h24
            refine brT ?_
            exact badpr4 hbX (by unfold pr4;simp [zaA,isW,isR,h1,h18,h19,h20,h21,h22,h23,h24])
          ·have h23:=zc9.symm.trans h23
           cases h20.symm.trans h23
         ·cases h19.symm.trans h22
        ·refine brF ?_
         refine⟨((d+1:Nat):Int),(zad (by omega)).trans (by omega),?_⟩
         exact⟨d+1,⟨.cons rfl (.cons rfl (.cons rfl (.cons rfl (.cons rfl (.cons rfl (.nil)))))),rfl⟩,⟨hdn,good (by unfold pr4;simp [zaA,isW,isR,h1,h18,h19,h20,h21]),fX,hbX⟩,by show x.ev.length-(d+1)<x.ev.length-d;omega⟩
      ·refine brT ?_
       refine brT ?_
       exact badpr4 hbX (by unfold pr4;simp [zaA,isW,isR,h1,h18,h19])
     ·refine brF ?_
      refine⟨_,zaf _,r_rm fX,hlt fX,?_⟩
      refine Calls.mono (zbj hv.rm (by omega) (by omega)) ?_
      rintro e U ⟨rfl,hbU⟩
      have fX:=zab hbU fX
      replace hbX:=hbX.trans (hbU.mono hbX.size)
      refine biE (fun h26=>?_) fun h26=>?_
      ·refine biE (fun h27=>?_) fun h27=>?_
       ·refine⟨a,rfl,by omega,?_⟩
        refine⟨_,zdl (zag hbX (hat a (by omega))),?_⟩
        refine biE (fun h28=>?_) fun h28=>?_
        ·have h28:=zc9.symm.trans h28
         refine⟨d,rfl,by omega,?_⟩
         refine⟨_,zdl (zag hbX (hat d (by omega))),?_⟩
         refine biE (fun h29=>?_) fun h29=>?_
         ·have h29:=zdE.symm.trans h29
          refine biE (fun h30=>?_) fun h30=>?_
          ·have h30:=notB h30
           exact badpr4 hbX (by unfold pr4;simp [zaA,isW,isR,h1,h18,h26,h27,h28,h29,h30])
          ·have h30:=notF h30
           refine⟨((d+1:Nat):Int),(zad (by omega)).trans (by omega),?_⟩
           exact⟨d+1,⟨.cons rfl (.cons rfl (.cons rfl (.cons rfl (.cons rfl (.cons rfl (.nil)))))),rfl⟩,⟨hdn,good (by unfold pr4;simp [zaA,isW,isR,h1,h18,h26,h27,h28,h29,h30]),fX,hbX⟩,by show x.ev.length-(d+1)<x.ev.length-d;omega⟩
         ·have h29:=zdE.symm.trans h29
          refine brT ?_
          exact badpr4 hbX (by unfold pr4;simp [zaA,isW,isR,h1,h18,h26,h27,h28,h29])
        ·have h28:=zc9.symm.trans h28
         refine brF ?_
         refine brT ?_
         exact badpr4 hbX (by unfold pr4;simp [zaA,isW,isR,h1,h18,h26,h27,h28])
       ·refine brF ?_
        refine brF ?_
        refine brT ?_
        exact badpr4 hbX (by unfold pr4;simp [zaA,isW,isR,h1,h18,h26,h27])
      ·refine brF ?_
       refine⟨((d+1:Nat):Int),(zad (by omega)).trans (by omega),?_⟩
       exact⟨d+1,⟨.cons rfl (.cons rfl (.cons rfl (.cons rfl (.cons rfl (.cons rfl (.nil)))))),rfl⟩,⟨hdn,good (by unfold pr4;simp [zaA,isW,isR,h1,h18,h26]),fX,hbX⟩,by show x.ev.length-(d+1)<x.ev.length-d;omega⟩
   ·have hc:¬ (d:Int)<(x.ev.length:Int):=of_decide_eq_false hc
    refine⟨((a+1:Nat):Int),(zad (by omega)).trans (by omega),?_⟩
    exact⟨a+1,⟨.cons rfl (.cons rfl (.cons rfl (.cons rfl (.cons rfl (.nil))))),rfl⟩,⟨han,zbi hallA (zc1 fun i hi=>hallD i (by omega)),fX,hbX⟩,by show x.ev.length-(a+1)<x.ev.length-a;omega⟩
  ·have hc:¬ (a:Int)<(x.ev.length:Int):=of_decide_eq_false hc
   exact⟨(),⟨.cons rfl (.cons rfl (.cons rfl (.cons rfl (.nil)))),rfl⟩,zc1 fun i hi=>hallA i (by omega),fX,hbX⟩
 clear fX hbX
 rintro _ X ⟨hpairs,fX,hbX⟩
 rw [hpairs,Bool.true_and] at hright
 refine⟨Unit,fun _=>⟨[(1,At0 L),(3,.slice (some ⟨bq,oq,none⟩) x.ev.length c),(4,i64 x.ev.length),(5,i64 (locs:Nat))],[]⟩,fun _ Z=>(List.range x.ev.length).all (zdT x)=true∧ExH Z L x (some ⟨bq,oq,none⟩) c∧Below w.heap.size w Z,?_,?_⟩
 ·refine⟨Nat,fun a=>⟨[(1,At0 L),(3,.slice (some ⟨bq,oq,none⟩) x.ev.length c),(4,i64 x.ev.length),(5,i64 (locs:Nat)),(12,i64 (a:Nat))],[]⟩,fun a Z=>a≤x.ev.length∧(∀ i,i<a→zdT x i=true)∧ExH Z L x (some ⟨bq,oq,none⟩) c∧Below w.heap.size w Z,fun a=>x.ev.length-a,0,⟨.cons rfl (.cons rfl (.cons rfl (.cons rfl (.cons rfl (.nil))))),rfl⟩,⟨Nat.zero_le _,fun i hi=>by omega,fX,hbX⟩,?_⟩
  clear fX hbX
  rintro a X ⟨ha,hallA,fX,hbX⟩
  dsimp only
  refine biE (fun hc=>?_) fun hc=>?_
  ·have hc:(a:Int)<(x.ev.length:Int):=of_decide_eq_true hc
   have han:a<x.ev.length:=by omega
   have bad:∀ {Z:World},Below w.heap.size w Z→zdT x a=false→(Ending.returned (.bool false)=Ending.returned (.bool (zc7 x))∧Below w.heap.size w Z):=fun {Z} hb h=>⟨rb (by
    have:(List.range x.ev.length).all (zdT x)=false:=zcE han h
    rw [hright,this];rfl),hb⟩
   refine⟨a,rfl,by omega,?_⟩
   refine⟨_,zdl (zag hbX (hat a (by omega))),?_⟩
   refine biE (fun h1=>?_) fun h1=>?_
   ·have h1:=zc9.symm.trans h1
    refine⟨_,zaf _,r_rf fX,hlt fX,?_⟩
    refine Calls.mono (zeW (n:=x.ev.length) (a:=a) hv.rf nrf (by omega) (by omega)) ?_
    rintro e U ⟨rfl,hbU⟩
    have fX:=zab hbU fX
    replace hbX:=hbX.trans (hbU.mono hbX.size)
    refine biE (fun h2=>?_) fun h2=>?_
    ·have h2:=(zdL (a:=(zbA x.rf a)) (b:=1)).symm.trans (notB h2)
     exact bad hbX (by unfold zdT;simp [isR,h1,h2])
    ·have h2:=(zdL (a:=(zbA x.rf a)) (b:=1)).symm.trans (notF h2)
     refine⟨_,zaf _,r_rm fX,hlt fX,?_⟩
     refine Calls.mono (zgW (n:=x.ev.length) (a:=a) hv.rm nrm (by omega) (by omega)) ?_
     rintro e U ⟨rfl,hbU⟩
     have fX:=zab hbU fX
     replace hbX:=hbX.trans (hbU.mono hbX.size)
     refine biE (fun h11=>?_) fun h11=>?_
     ·have h11:=notB ((zeF (a:=(zbN x.rm a))).symm.trans h11)
      refine brT ?_
      exact bad hbX (by unfold zdT;simp [isR,h1,h2,h11])
     ·have h11:=notF ((zeF (a:=(zbN x.rm a))).symm.trans h11)
      refine⟨_,zaf _,r_rm fX,hlt fX,?_⟩
      refine Calls.mono (zeW (n:=x.ev.length) (a:=a) hv.rm nrm (by omega) (by omega)) ?_
      rintro e U ⟨rfl,hbU⟩
      have fX:=zab hbU fX
      replace hbX:=hbX.trans (hbU.mono hbX.size)
      refine biE (fun h12=>?_) fun h12=>?_
      ·have h12:=notB ((zeF (a:=(zbA x.rm a))).symm.trans h12)
       exact bad hbX (by unfold zdT;simp [isR,h1,h2,h11,h12])
      ·have h12:=notF ((zeF (a:=(zbA x.rm a))).symm.trans h12)
       refine⟨((a+1:Nat):Int),(zad (by omega)).trans (by omega),?_⟩
       exact⟨a+1,⟨.cons rfl (.cons rfl (.cons rfl (.cons rfl (.cons rfl (.nil))))),rfl⟩,⟨han,zbi hallA (by unfold zdT;simp [isR,h1,h2,h11,h12]),fX,hbX⟩,by show x.ev.length-(a+1)<x.ev.length-a;omega⟩
   ·have h1:=zc9.symm.trans h1
    refine brF ?_
    refine⟨_,zaf _,r_rm fX,hlt fX,?_⟩
    refine Calls.mono (zgW (n:=x.ev.length) (a:=a) hv.rm nrm (by omega) (by omega)) ?_
    rintro e U ⟨rfl,hbU⟩
    have fX:=zab hbU fX
    replace hbX:=hbX.trans (hbU.mono hbX.size)
    refine biE (fun h11=>?_) fun h11=>?_
    ·have h11:=notB ((zeF (a:=(zbN x.rm a))).symm.trans h11)
     refine brT ?_
     exact bad hbX (by unfold zdT;simp [isR,h1,h11])
    ·have h11:=notF ((zeF (a:=(zbN x.rm a))).symm.trans h11)
     refine⟨_,zaf _,r_rm fX,hlt fX,?_⟩
     refine Calls.mono (zeW (n:=x.ev.length) (a:=a) hv.rm nrm (by omega) (by omega)) ?_
     rintro e U ⟨rfl,hbU⟩
     have fX:=zab hbU fX
     replace hbX:=hbX.trans (hbU.mono hbX.size)
     refine biE (fun h12=>?_) fun h12=>?_
     ·have h12:=notB ((zeF (a:=(zbA x.rm a))).symm.trans h12)
      exact bad hbX (by unfold zdT;simp [isR,h1,h11,h12])
     ·have h12:=notF ((zeF (a:=(zbA x.rm a))).symm.trans h12)
      refine⟨((a+1:Nat):Int),(zad (by omega)).trans (by omega),?_⟩
      exact⟨a+1,⟨.cons rfl (.cons rfl (.cons rfl (.cons rfl (.cons rfl (.nil))))),rfl⟩,⟨han,zbi hallA (by unfold zdT;simp [isR,h1,h11,h12]),fX,hbX⟩,by show x.ev.length-(a+1)<x.ev.length-a;omega⟩
  ·have hc:¬ (a:Int)<(x.ev.length:Int):=of_decide_eq_false hc
   exact⟨(),⟨.cons rfl (.cons rfl (.cons rfl (.cons rfl (.nil)))),rfl⟩,zc1 fun i hi=>hallA i (by omega),fX,hbX⟩
 clear fX hbX
 rintro _ X ⟨hcnts,fX,hbX⟩
 rw [hcnts,Bool.true_and] at hright
 refine⟨_,zav _ _ _,zaa fX,hlt fX,?_⟩
 refine Calls.mono (zmD (hv.below hbX) (by omega) nco (by omega)) ?_
 rintro e U ⟨rfl,hbU⟩
 exact⟨rb hright.symm,hbX.trans (hbU.mono hbX.size)⟩
end
theorem zj2 {ev:List Ev} (h:48<ev.length):zbm ev=none:=by
 unfold zbm
 cases hdGo 0 ev with
 | none=>rfl
 | some l=>exact if_pos (by omega)
section
variable {w:World} {c:Nat} {x:ExD} {q:Option Addr}
theorem ziA (hx:SlR evE w q x.ev) (h:48<x.ev.length) (hmax:x.ev.length<4611686018427387904):Calls Tryz.prog 9 #[.agg (exC x q c).toArray] w fun e w'=>e = .returned (.bool false)∧Below w.heap.size w w':=by
 refine zal (S:=sg 278) (sgOk _) (args:=[.agg (exC x q c).toArray]) (.c .p (.c .p (.c .p .p))) Tryz.func9 rfl rfl (Nat.le_of_ble_eq_true rfl) rfl ?_
 obtain⟨L,hL⟩:=nm (w.heap.size)
 refine⟨Unit,fun _=>⟨[(1,At0 L)],[]⟩,fun _ X=>ExH X L x q c∧Below w.heap.size w X,⟨(),⟨.cons (by rw [hL];rfl) .nil,rfl⟩,by rw [hL];exact hnew w _,(Below.refl _ w).alloc (Nat.le_refl _) _⟩,?_⟩
 rintro _ X ⟨fX,hbX⟩
 refine⟨Unit,fun _=>⟨[(1,At0 L),(3,.slice q x.ev.length c),(4,i64 x.ev.length)],[]⟩,fun _ Z=>Below w.heap.size w Z,?_,?_⟩
 ·have dX:Below X.heap.size X X.drew:=(Below.refl _ _).drew
  refine DrawE.ord [] [0,1,2,3,4,5,6] (by kernel_rfl) ?_
  have fX:=zab dX fX
  refine⟨_,zaT (zaa fX),?_⟩
  refine⟨_,zaT (zaa fX),?_⟩
  exact⟨(),(cvE rfl rfl),hbX.trans (dX.mono hbX.size)⟩
 clear fX hbX
 rintro _ X hbX
 refine⟨Unit,fun _=>⟨[(5,zew x.ev)],[]⟩,fun _ Z=>Below w.heap.size w Z,?_,?_⟩
 ·refine Calls.mono (zjb (hx.below hbX) hmax) ?_
  rintro e U ⟨rfl,hbU⟩
  exact⟨(),(cvE rfl rfl),hbX.trans (hbU.mono hbX.size)⟩
 clear hbX
 rintro _ X hbX
 have e1:zew x.ev=i64 (-1):=by unfold zew;rw [zj2 h]
 rw [e1]
 refine brE (decide_eq_true (by decide)) ?_
 exact⟨rfl,hbX⟩
theorem zke (h:48<x.ev.length):Calls Tryz.prog 8 #[.agg (exC x q c).toArray] w fun e w'=>e = .returned (.bool false)∧Below w.heap.size w w':=by
 refine zal (S:=sg 70) (sgOk _) (args:=[.agg (exC x q c).toArray]) (.c .p .p) Tryz.func8 rfl rfl (Nat.le_of_ble_eq_true rfl) rfl ?_
 obtain⟨L,hL⟩:=nm (w.heap.size)
 refine⟨Unit,fun _=>⟨[(1,At0 L)],[]⟩,fun _ X=>ExH X L x q c∧Below w.heap.size w X,⟨(),⟨.cons (by rw [hL];rfl) .nil,rfl⟩,by rw [hL];exact hnew w _,(Below.refl _ w).alloc (Nat.le_refl _) _⟩,?_⟩
 rintro _ X ⟨fX,hbX⟩
 refine⟨_,zaT (zaa fX),?_⟩
 refine brE (decide_eq_true (by omega)) ?_
 exact⟨rfl,hbX⟩
end
theorem thr9 {X W:World} (L:List (List InsD×Nat)) (hL:∀ p∈L,X.heap[p.2]?=some (.cells (p.1.flatMap insE.enc).toArray 59 (0,0))) (hW:W=X.alloc (.cells (L.map fun p=>Value.slice (some ⟨p.2,0,none⟩) p.1.length p.1.length).toArray 60)):ThrsW W.heap.size W (some ⟨X.heap.size,0,none⟩) (L.map (·.1)):=by
 have f:W.heap[X.heap.size]?=some (.cells (L.map fun p=>Value.slice (some ⟨p.2,0,none⟩) p.1.length p.1.length).toArray 60 (0,0)):=by rw [hW];exact hnew X _
 refine⟨L.map fun p=>(p.1,some ⟨p.2,0,none⟩,p.1.length),by rw [List.map_map];rfl,.inr ⟨X.heap.size,0,rfl,hlt f,?_⟩,fun x hx=>?_⟩
 ·have e:(L.map fun p=>((p.1,some ⟨p.2,0,none⟩,p.1.length):ThrR)).flatMap thrE.enc=L.map fun p=>Value.slice (some ⟨p.2,0,none⟩) p.1.length p.1.length:=by
   rw [List.flatMap_map]
   clear hL hW f
   induction L with
   | nil=>rfl
   | cons a L ih=>rw [List.flatMap_cons,ih];rfl
  rw [e]
  exact zaa f
 ·obtain⟨y,hy,rfl⟩:=List.mem_map.1 hx
  have g:W.heap[y.2]?=some (.cells (y.1.flatMap insE.enc).toArray 59 (0,0)):=by rw [hW];exact hold _ (hL y hy)
  exact⟨.inr ⟨y.2,0,rfl,hlt g,zaa g⟩,fun a ha=>by
   obtain rfl:(⟨y.2,0,none⟩:Addr)=a:=Option.some.inj ha
   exact hlt g⟩
abbrev InsB (X:World) (O:Nat) (l:List InsD):Prop:=X.heap[O]?=some (.cells (l.flatMap insE.enc).toArray 59 (0,0))
structure CanB (X:World) (l:List ExD) (q:Option Addr) (xs:List exE3):Prop where
 e:xs.map (·.1)=l
 r:SlR exE X q xs
 v:∀ x∈xs,SlR evE X x.2.1 x.1.ev
theorem CanB.below {X Y:World} {l:List ExD} {q:Option Addr} {xs:List exE3} (h:CanB X l q xs) (hb:Below X.heap.size X Y):CanB Y l q xs:=⟨h.e,h.r.below hb,fun x hx=>(h.v x hx).below hb⟩
theorem CanB.len {X:World} {l:List ExD} {q:Option Addr} {xs:List exE3} (h:CanB X l q xs):xs.length=l.length:=by rw [← h.e,List.length_map]
theorem zb8 {X W:World} {P Q:Nat} {x:ExD} {qx:Option Addr} {cx:Nat} {cs:Array Value} (hb:Below X.heap.size X W) (fP:W.heap[P]?=some (.cells cs 34 (0,0))) (hcs:cs.size=333) {o:Obj} (fQ:W.heap[Q]?=some o) (hPQ:P≠Q) (hP:X.heap.size≤P) {K:World→Prop} (k:∀ Y,ExH Y P x qx cx→Y.heap[Q]?=some o→Below X.heap.size X Y→K Y) :
  SatR ((storeVar 34 ⟨P,0,none⟩ (.agg (exC x qx cx).toArray)).run Tryz.prog W) fun _ w'=>K w' :=
 zax (v := .agg (exC x qx cx).toArray) (ttOk.get 34 _ rfl) fP (zav _ _ _) hcs (zdj _ _ _) (k _ (zat fP) ((zao (fun h=>hPQ h.symm)).trans fQ) (zar hb hP _))
theorem znh {X:World} {b c:Nat} {x:ExD} {q:Option Addr} (fx:ExH X b x q c) {i:Nat} (hi:i<48):X.cell? ⟨b,0+50+1+i*1,none⟩=some (s64 (x.rf.to i)):=by
 obtain⟨A,T,hA,hE⟩:=zlx x q c
 have hR:RelAt X b 50 34 A T x.rf:=⟨hA,by rw [← hE];exact fx⟩
 exact hR.cell hi
theorem zpe {X:World} {b c:Nat} {x:ExD} {q:Option Addr} (fx:ExH X b x q c) {i:Nat} (hi:i<48):X.cell? ⟨b,0+99+1+i*1,none⟩=some (s64 (x.co.to i)):=by
 obtain⟨A,T,hA,hE⟩:=zjg x q c
 have hR:RelAt X b 99 34 A T x.co:=⟨hA,by rw [← hE];exact fx⟩
 exact hR.cell hi
theorem zoj {X:World} {b:Nat} {x:ExD} {q:Option Addr} {c i j:Nat} (fx:zau X ⟨b,0,none⟩ (exC x q c)) (hi:i*8+j<32):X.cell? ⟨b,0+295+i*8+j*1,none⟩=some (u8 (x.regs (i*8+j))):=by
 obtain⟨A,T,hA,hE⟩:=zlv x q c []
 have h2:(exC x q c)[295+(i*8+j)]?=some (u8 (x.regs (i*8+j))):=by
  have h:=hE x.regs
  rw [List.append_nil] at h
  rw [h,zbe hA,List.getElem?_append_left (by rw [zas];exact hi)]
  unfold seg
  rw [List.getElem?_map,List.getElem?_range hi];rfl
 have h4:=zac fx h2
 rw [show 0+(295+(i*8+j))=0+295+i*8+j*1 by omega] at h4
 exact h4
abbrev zEx:Obj := .cells zt34.toArray 34
theorem zp7 {w:World} (hG:GlobE w):Calls Tryz.prog 7 #[] w fun e w'=>e = .returned (.bool true)∧Below w.heap.size w w':=by
 refine zal (S:=sg 183) (sgOk _) (args:=[]) (.s .p (.c .p (.c .p (.c .p (.c .p (.c .p (.c .p (.c .p (.c .p (.c .p .p)))))))))) Tryz.func7 rfl rfl (Nat.le_of_ble_eq_true rfl) rfl ?_
 refine⟨Nat,fun O=>⟨[(1,.slice (some ⟨O,0,none⟩) 1 1)],[]⟩,fun O X=>InsB X O [stI 0 1 0]∧Below w.heap.size w X,?_,?_⟩
 ·refine⟨[.bool false,u8 1],by kernel_rfl,?_⟩
  refine⟨insE.enc (stI 0 1 0),by kernel_rfl,?_⟩
  refine⟨⟨by decide,by decide,rfl⟩,insE.enc (stI 0 1 0),rfl,?_⟩
  exact⟨w.heap.size,(cvE rfl rfl),hnew w _,(Below.refl _ w).alloc (Nat.le_refl _) _⟩
 rintro O X ⟨fO,hbX⟩
 refine⟨Nat,fun D=>⟨[(1,.slice (some ⟨O,0,none⟩) 1 1),(2,.slice (some ⟨D,0,none⟩) 1 1)],[]⟩,fun D Y=>InsB Y O [stI 0 1 0]∧InsB Y D [ldI 0 0 0]∧Below w.heap.size w Y,?_,?_⟩
 ·refine⟨insE.enc (ldI 0 0 0),by kernel_rfl,?_⟩
  refine⟨⟨by decide,by decide,rfl⟩,insE.enc (ldI 0 0 0),rfl,?_⟩
  exact⟨X.heap.size,(cvE rfl rfl),hold _ fO,hnew X _,hbX.alloc hbX.size _⟩
 clear fO hbX
 clear X
 rintro D X ⟨fO,fD,hbX⟩
 refine⟨Option Addr×List exE3×Nat,fun s=>⟨[(1,.slice (some ⟨O,0,none⟩) 1 1),(2,.slice (some ⟨D,0,none⟩) 1 1),(3,.slice s.1 s.2.1.length s.2.2),(4,i64 0)],[]⟩,fun s Z=>CanB Z (zbc p1P [0,1]) s.1 s.2.1∧InsB Z O [stI 0 1 0]∧InsB Z D [ldI 0 0 0]∧Below w.heap.size w Z,?_,?_⟩
 ·obtain⟨S,hS⟩:=nm (X)
  have dXS:Below X.heap.size X S:=by rw [hS];exact Below.refl _ _
  have hbS:Below w.heap.size w S:=by rw [hS];exact hbX
  rw [← hS]
  obtain⟨W1,hW1⟩:=nm (S.alloc (.cells #[.slice (some ⟨O,0,none⟩) 1 1,.slice (some ⟨D,0,none⟩) 1 1] 60))
  have b1:Below S.heap.size S W1:=by rw [hW1];exact (Below.refl _ _).alloc (Nat.le_refl _) _
  refine⟨⟨by decide,by decide,rfl⟩,[.slice (some ⟨O,0,none⟩) 1 1,.slice (some ⟨D,0,none⟩) 1 1],rfl,?_⟩
  have hW1b:S.alloc (.cells [.slice (some ⟨O,0,none⟩) 1 1,.slice (some ⟨D,0,none⟩) 1 1].toArray 60)=W1:=hW1.symm
  rw [hW1b]
  have hT:ThrsW W1.heap.size W1 (some ⟨S.heap.size,0,none⟩) [[stI 0 1 0],[ldI 0 0 0]]:=thr9 [([stI 0 1 0],O),([ldI 0 0 0],D)] (fun p hp=>by
   simp only [List.mem_cons,List.not_mem_nil,or_false] at hp
   rcases hp with rfl | rfl
   ·exact zab dXS fO
   ·exact zab dXS fD) hW1
  have h9:=ze5 (ct:=2) hT (by decide) (fun l hl=>by
   simp only [List.mem_cons,List.not_mem_nil,or_false] at hl
   rcases hl with rfl | rfl <;> decide)
  refine Calls.mono h9 ?_
  rintro e U ⟨⟨vs,rfl,hP⟩,hbU⟩
  have b2:=b1.trans (hbU.mono b1.size)
  have bU:=hbS.trans (b2.mono hbS.size)
  refine Calls.mono (zgX (Nat.le_refl _) hP (hG.below bU) (zee p1_q)) ?_
  rintro e V ⟨⟨xs,qq,cc,rfl,h1,h2,h3⟩,hbV⟩
  have bXV:=dXS.trans ((b2.trans (hbV.mono b2.size)).mono dXS.size)
  exact⟨(qq,xs,cc),(cvE rfl rfl),⟨h1,h2.row,fun x hx=>(h3 x hx).row⟩,zab (bXV) fO,zab (bXV) fD,hbX.trans (bXV.mono hbX.size)⟩
 clear fO fD hbX
 clear X
 rintro⟨q3,xs3,c3⟩ X ⟨cb3,fO,fD,hbX⟩
 dsimp only at cb3 ⊢
 refine⟨Option Addr×List exE3×Nat,fun s=>⟨[(1,.slice (some ⟨O,0,none⟩) 1 1),(2,.slice (some ⟨D,0,none⟩) 1 1),(3,.slice q3 xs3.length c3),(4,i64 0),(5,.slice s.1 s.2.1.length s.2.2),(6,i64 0)],[]⟩,fun s Z=>CanB Z (zbc p2P [0,1]) s.1 s.2.1∧CanB Z (zbc p1P [0,1]) q3 xs3∧InsB Z O [stI 0 1 0]∧InsB Z D [ldI 0 0 0]∧Below w.heap.size w Z,?_,?_⟩
 ·obtain⟨S,hS⟩:=nm (X)
  have dXS:Below X.heap.size X S:=by rw [hS];exact Below.refl _ _
  have hbS:Below w.heap.size w S:=by rw [hS];exact hbX
  rw [← hS]
  obtain⟨W1,hW1⟩:=nm (S.alloc (.cells #[.slice (some ⟨O,0,none⟩) 1 1,.slice (some ⟨O,0,none⟩) 1 1,.slice (some ⟨D,0,none⟩) 1 1] 60))
  have b1:Below S.heap.size S W1:=by rw [hW1];exact (Below.refl _ _).alloc (Nat.le_refl _) _
  refine⟨⟨by decide,by decide,rfl⟩,[.slice (some ⟨O,0,none⟩) 1 1,.slice (some ⟨O,0,none⟩) 1 1,.slice (some ⟨D,0,none⟩) 1 1],rfl,?_⟩
  have hW1b:S.alloc (.cells [.slice (some ⟨O,0,none⟩) 1 1,.slice (some ⟨O,0,none⟩) 1 1,.slice (some ⟨D,0,none⟩) 1 1].toArray 60)=W1:=hW1.symm
  rw [hW1b]
  have hT:ThrsW W1.heap.size W1 (some ⟨S.heap.size,0,none⟩) [[stI 0 1 0],[stI 0 1 0],[ldI 0 0 0]]:=thr9 [([stI 0 1 0],O),([stI 0 1 0],O),([ldI 0 0 0],D)] (fun p hp=>by
   simp only [List.mem_cons,List.not_mem_nil,or_false] at hp
   rcases hp with rfl | rfl | rfl
   ·exact zab dXS fO
   ·exact zab dXS fO
   ·exact zab dXS fD) hW1
  have h9:=ze5 (ct:=3) hT (by decide) (fun l hl=>by
   simp only [List.mem_cons,List.not_mem_nil,or_false] at hl
   rcases hl with rfl | rfl | rfl <;> decide)
  refine Calls.mono h9 ?_
  rintro e U ⟨⟨vs,rfl,hP⟩,hbU⟩
  have b2:=b1.trans (hbU.mono b1.size)
  have bU:=hbS.trans (b2.mono hbS.size)
  refine Calls.mono (zgX (Nat.le_refl _) hP (hG.below bU) (zee p2_q)) ?_
  rintro e V ⟨⟨xs,qq,cc,rfl,h1,h2,h3⟩,hbV⟩
  have bXV:=dXS.trans ((b2.trans (hbV.mono b2.size)).mono dXS.size)
  exact⟨(qq,xs,cc),(cvE rfl rfl),⟨h1,h2.row,fun x hx=>(h3 x hx).row⟩,cb3.below (bXV),zab (bXV) fO,zab (bXV) fD,hbX.trans (bXV.mono hbX.size)⟩
 clear cb3 fO fD hbX
 clear X
 rintro⟨q5,xs5,c5⟩ X ⟨cb5,cb3,fO,fD,hbX⟩
 dsimp only at cb5 ⊢
 refine⟨Option Addr×List exE3×Nat,fun s=>⟨[(1,.slice (some ⟨O,0,none⟩) 1 1),(2,.slice (some ⟨D,0,none⟩) 1 1),(3,.slice q3 xs3.length c3),(4,i64 0),(5,.slice q5 xs5.length c5),(6,i64 0),(7,.slice s.1 s.2.1.length s.2.2),(8,i64 0)],[]⟩,fun s Z=>CanB Z (zbc p3P [0,1]) s.1 s.2.1∧CanB Z (zbc p2P [0,1]) q5 xs5∧CanB Z (zbc p1P [0,1]) q3 xs3∧InsB Z O [stI 0 1 0]∧InsB Z D [ldI 0 0 0]∧Below w.heap.size w Z,?_,?_⟩
 ·obtain⟨S0,hS0⟩:=nm (X.drew)
  have d0:Below X.heap.size X S0:=by rw [hS0];exact (Below.refl _ _).drew
  refine DrawE.ord [] [0,1,2,3,4,5,6,7,8,9,10,11,12,13,14] (by kernel_rfl) ?_
  rw [← hS0]
  have gO:=zab d0 fO
  have gD:=zab d0 fD
  refine⟨0,rfl,by decide,?_⟩
  refine⟨insE.enc (ldI 0 0 0),rfl,zaa gD,hlt gD,?_⟩
  refine⟨0,rfl,by decide,?_⟩
  refine⟨insE.enc (stI 0 1 0),rfl,zaa gO,hlt gO,?_⟩
  obtain⟨S,hS⟩:=nm (S0.alloc (.cells (insE.enc (ldI 0 0 0)++insE.enc (stI 0 1 0)).toArray 59))
  have d1:Below S0.heap.size S0 S:=by rw [hS];exact (Below.refl _ _).alloc (Nat.le_refl _) _
  refine⟨⟨by decide,by decide,rfl⟩,insE.enc (ldI 0 0 0)++insE.enc (stI 0 1 0),rfl,?_⟩
  have hSb:S0.alloc (.cells (insE.enc (ldI 0 0 0)++insE.enc (stI 0 1 0)).toArray 59)=S:=hS.symm
  rw [hSb]
  refine⟨d1,?_⟩
  have fN:InsB S S0.heap.size [ldI 0 0 0,stI 0 1 0]:=by rw [hS];exact hnew S0 _
  have dXS:Below X.heap.size X S:=d0.trans (d1.mono d0.size)
  have hbS:Below w.heap.size w S:=hbX.trans (dXS.mono hbX.size)
  obtain⟨W1,hW1⟩:=nm (S.alloc (.cells #[.slice (some ⟨S0.heap.size,0,none⟩) 2 2] 60))
  have b1:Below S.heap.size S W1:=by rw [hW1];exact (Below.refl _ _).alloc (Nat.le_refl _) _
  refine⟨⟨by decide,by decide,rfl⟩,[.slice (some ⟨S0.heap.size,0,none⟩) 2 2],rfl,?_⟩
  have hW1b:S.alloc (.cells [.slice (some ⟨S0.heap.size,0,none⟩) 2 2].toArray 60)=W1:=hW1.symm
  rw [hW1b]
  refine⟨b1,?_⟩
  have hT:ThrsW W1.heap.size W1 (some ⟨S.heap.size,0,none⟩) [[ldI 0 0 0,stI 0 1 0]]:=thr9 [([ldI 0 0 0,stI 0 1 0],S0.heap.size)] (fun p hp=>by
   simp only [List.mem_cons,List.not_mem_nil,or_false] at hp
   rcases hp with rfl
   ·exact fN) hW1
  have h9:=ze5 (ct:=1) hT (by decide) (fun l hl=>by
   simp only [List.mem_cons,List.not_mem_nil,or_false] at hl
   rcases hl with rfl <;> decide)
  refine Calls.mono h9 ?_
  rintro e U ⟨⟨vs,rfl,hP⟩,hbU⟩
  refine⟨hbU,?_⟩
  have b2:=b1.trans (hbU.mono b1.size)
  have bU:=hbS.trans (b2.mono hbS.size)
  refine Calls.mono (zgX (Nat.le_refl _) hP (hG.below bU) (zee p3_q)) ?_
  rintro e V ⟨⟨xs,qq,cc,rfl,h1,h2,h3⟩,hbV⟩
  refine⟨hbV,?_⟩
  have bXV:=dXS.trans ((b2.trans (hbV.mono b2.size)).mono dXS.size)
  exact⟨(qq,xs,cc),(cvE rfl rfl),⟨h1,h2.row,fun x hx=>(h3 x hx).row⟩,cb5.below (bXV),cb3.below (bXV),zab (bXV) fO,zab (bXV) fD,hbX.trans (bXV.mono hbX.size)⟩
 clear cb5 cb3 fO fD hbX
 clear X
 rintro⟨q7,xs7,c7⟩ X ⟨cb7,cb5,cb3,fO,fD,hbX⟩
 dsimp only at cb7 ⊢
 refine⟨Option Addr×List exE3×Nat,fun s=>⟨[(1,.slice (some ⟨O,0,none⟩) 1 1),(2,.slice (some ⟨D,0,none⟩) 1 1),(3,.slice q3 xs3.length c3),(4,i64 0),(5,.slice q5 xs5.length c5),(6,i64 0),(7,.slice q7 xs7.length c7),(8,i64 0),(9,.slice s.1 s.2.1.length s.2.2),(10,i64 0)],[]⟩,fun s Z=>CanB Z (zbc p4P [0]) s.1 s.2.1∧CanB Z (zbc p3P [0,1]) q7 xs7∧CanB Z (zbc p2P [0,1]) q5 xs5∧CanB Z (zbc p1P [0,1]) q3 xs3∧InsB Z O [stI 0 1 0]∧InsB Z D [ldI 0 0 0]∧Below w.heap.size w Z,?_,?_⟩
 ·obtain⟨S,hS⟩:=nm (X)
  have fN0:=hnew X (.cells (insE.enc feI).toArray 59)
  clear hS
  clear S
  obtain⟨S,hS⟩:=nm (X.alloc (.cells (insE.enc feI).toArray 59))
  refine⟨insE.enc feI,by kernel_rfl,?_⟩
  refine⟨⟨by decide,by decide,rfl⟩,insE.enc feI,rfl,?_⟩
  have hSb:X.alloc (.cells (insE.enc feI).toArray 59)=S:=hS.symm
  rw [hSb]
  have fN:InsB S X.heap.size [feI]:=by rw [hS];exact fN0
  have dXS:Below X.heap.size X S:=by rw [hS];exact (Below.refl _ _).alloc (Nat.le_refl _) _
  have hbS:Below w.heap.size w S:=hbX.trans (dXS.mono hbX.size)
  obtain⟨W1,hW1⟩:=nm (S.alloc (.cells #[.slice (some ⟨X.heap.size,0,none⟩) 1 1] 60))
  have b1:Below S.heap.size S W1:=by rw [hW1];exact (Below.refl _ _).alloc (Nat.le_refl _) _
  refine⟨⟨by decide,by decide,rfl⟩,[.slice (some ⟨X.heap.size,0,none⟩) 1 1],rfl,?_⟩
  have hW1b:S.alloc (.cells [.slice (some ⟨X.heap.size,0,none⟩) 1 1].toArray 60)=W1:=hW1.symm
  rw [hW1b]
  have hT:ThrsW W1.heap.size W1 (some ⟨S.heap.size,0,none⟩) [[feI]]:=thr9 [([feI],X.heap.size)] (fun p hp=>by
   simp only [List.mem_cons,List.not_mem_nil,or_false] at hp
   rcases hp with rfl
   ·exact fN) hW1
  have h9:=ze5 (ct:=1) hT (by decide) (fun l hl=>by
   simp only [List.mem_cons,List.not_mem_nil,or_false] at hl
   rcases hl with rfl <;> decide)
  refine Calls.mono h9 ?_
  rintro e U ⟨⟨vs,rfl,hP⟩,hbU⟩
  have b2:=b1.trans (hbU.mono b1.size)
  have bU:=hbS.trans (b2.mono hbS.size)
  refine Calls.mono (zgX (Nat.le_refl _) hP (hG.below bU) (zee p4_q)) ?_
  rintro e V ⟨⟨xs,qq,cc,rfl,h1,h2,h3⟩,hbV⟩
  have bXV:=dXS.trans ((b2.trans (hbV.mono b2.size)).mono dXS.size)
  exact⟨(qq,xs,cc),(cvE rfl rfl),⟨h1,h2.row,fun x hx=>(h3 x hx).row⟩,cb7.below (bXV),cb5.below (bXV),cb3.below (bXV),zab (bXV) fO,zab (bXV) fD,hbX.trans (bXV.mono hbX.size)⟩
 clear cb7 cb5 cb3 fO fD hbX
 clear X
 rintro⟨q9,xs9,c9⟩ X ⟨cb9,cb7,cb5,cb3,fO,fD,hbX⟩
 dsimp only at cb9 ⊢
 refine⟨Unit,fun _=>⟨[(1,.slice (some ⟨O,0,none⟩) 1 1),(2,.slice (some ⟨D,0,none⟩) 1 1),(3,.slice q3 xs3.length c3),(4,i64 0),(5,.slice q5 xs5.length c5),(6,i64 0),(7,.slice q7 xs7.length c7),(8,i64 0),(9,.slice q9 xs9.length c9),(10,i64 0),(12,i64 5)],[]⟩,fun _ Z=>CanB Z (zbc p4P [0]) q9 xs9∧CanB Z (zbc p3P [0,1]) q7 xs7∧CanB Z (zbc p2P [0,1]) q5 xs5∧CanB Z (zbc p1P [0,1]) q3 xs3∧InsB Z O [stI 0 1 0]∧InsB Z D [ldI 0 0 0]∧Below w.heap.size w Z,?_,?_⟩
 ·obtain⟨S,hS⟩:=nm (X)
  have dXS:Below X.heap.size X S:=by rw [hS];exact Below.refl _ _
  have hbS:Below w.heap.size w S:=by rw [hS];exact hbX
  rw [← hS]
  obtain⟨W1,hW1⟩:=nm (S.alloc (.cells #[.slice (some ⟨O,0,none⟩) 1 1,.slice (some ⟨O,0,none⟩) 1 1,.slice (some ⟨D,0,none⟩) 1 1] 60))
  have b1:Below S.heap.size S W1:=by rw [hW1];exact (Below.refl _ _).alloc (Nat.le_refl _) _
  refine⟨⟨by decide,by decide,rfl⟩,[.slice (some ⟨O,0,none⟩) 1 1,.slice (some ⟨O,0,none⟩) 1 1,.slice (some ⟨D,0,none⟩) 1 1],rfl,?_⟩
  have hW1b:S.alloc (.cells [.slice (some ⟨O,0,none⟩) 1 1,.slice (some ⟨O,0,none⟩) 1 1,.slice (some ⟨D,0,none⟩) 1 1].toArray 60)=W1:=hW1.symm
  rw [hW1b]
  have hT:ThrsW W1.heap.size W1 (some ⟨S.heap.size,0,none⟩) [[stI 0 1 0],[stI 0 1 0],[ldI 0 0 0]]:=thr9 [([stI 0 1 0],O),([stI 0 1 0],O),([ldI 0 0 0],D)] (fun p hp=>by
   simp only [List.mem_cons,List.not_mem_nil,or_false] at hp
   rcases hp with rfl | rfl | rfl
   ·exact zab dXS fO
   ·exact zab dXS fO
   ·exact zab dXS fD) hW1
  have h9:=ze5 (ct:=3) hT (by decide) (fun l hl=>by
   simp only [List.mem_cons,List.not_mem_nil,or_false] at hl
   rcases hl with rfl | rfl | rfl <;> decide)
  refine Calls.mono h9 ?_
  rintro e U ⟨⟨vs,rfl,hP⟩,hbU⟩
  have b2:=b1.trans (hbU.mono b1.size)
  have bU:=hbS.trans (b2.mono hbS.size)
  refine Calls.mono (zhQ (Nat.le_refl _) hP (hG.below bU) (zee p2_q) (by decide) (of_decide_eq_true znY)) ?_
  rintro e V ⟨rfl,hbV⟩
  have bXV:=dXS.trans ((b2.trans (hbV.mono b2.size)).mono dXS.size)
  exact⟨(),(cvE rfl rfl),cb9.below (bXV),cb7.below (bXV),cb5.below (bXV),cb3.below (bXV),zab (bXV) fO,zab (bXV) fD,hbX.trans (bXV.mono hbX.size)⟩
 clear cb9 cb7 cb5 cb3 fO fD hbX
 clear X
 rintro _ X ⟨cb9,cb7,cb5,cb3,fO,fD,hbX⟩
 have l3:xs3.length=2:=cb3.len.trans zpr
 have l5:xs5.length=6:=cb5.len.trans zpq
 have l7:xs7.length=2:=cb7.len.trans zpp
 have l9:xs9.length=1:=cb9.len.trans zpo
 refine⟨Unit,fun _=>⟨[(3,.slice q3 xs3.length c3)],[]⟩,fun _ Z=>X=Z,?_,?_⟩
 ·refine⟨0,rfl,?_⟩
  refine⟨0,rfl,?_⟩
  refine⟨0,rfl,?_⟩
  refine brN (by decide) ?_
  refine brN (by decide) ?_
  refine brN (by rw [l3];rfl) ?_
  refine brN (by rw [l5];rfl) ?_
  refine brN (by rw [l7];rfl) ?_
  refine brN (by rw [l9];rfl) ?_
  exact⟨(),(cvE rfl rfl),rfl⟩
 rintro _ _ rfl
 clear cb5 cb7 cb9 fO fD l5 l7 l9
 have hxs:∀ i,i<2→∃ x,xs3[i]?=some x∧x.1=(zbc p1P [0,1]).getD i (ex0 0):=fun i hi=>by
  have hl:i<xs3.length:=by omega
  refine⟨xs3[i],List.getElem?_eq_getElem hl,?_⟩
  rw [← cb3.e,List.getD_eq_getElem?_getD,List.getElem?_map,List.getElem?_eq_getElem hl];rfl
 obtain⟨x,hx0,hx1⟩:=hxs 0 (by decide)
 obtain⟨y,hy0,hy1⟩:=hxs 1 (by decide)
 obtain⟨bq,oq,hqq,hbq,hat⟩:=cb3.r.at (by omega:0<xs3.length)
 have hgx:xs3[0]'(by omega)=x:=Option.some.inj ((List.getElem?_eq_getElem (by omega)).symm.trans hx0)
 have hgy:xs3[1]'(by omega)=y:=Option.some.inj ((List.getElem?_eq_getElem (by omega)).symm.trans hy0)
 have atx:zau X ⟨bq,oq+0*333,none⟩ (exC x.1 x.2.1 x.2.2):=by have:=hat 0 (by omega);rw [hgx] at this;exact this
 have aty:zau X ⟨bq,oq+1*333,none⟩ (exC y.1 y.2.1 y.2.2):=by have:=hat 1 (by omega);rw [hgy] at this;exact this
 have vx:=cb3.v x (by rw [← hgx];exact List.getElem_mem _)
 have vy:=cb3.v y (by rw [← hgy];exact List.getElem_mem _)
 subst hqq
 clear hat hgx hgy hx0 hy0 hxs
 refine⟨Nat×Nat,fun s=>⟨[(13,At0 s.1),(14,At0 s.2)],[]⟩,fun s Z=>ExH Z s.1 x.1 x.2.1 x.2.2∧ExH Z s.2 y.1 y.2.1 y.2.2∧Below X.heap.size X Z,?_,?_⟩
 ·have b0:Below X.heap.size X X.drew:=(Below.refl _ _).drew
  have y0:=b0.size
  refine DrawE.treeQ [8,9] (.op 0 (.op 1 (.op 2 (.op 3 (.op 4 (.alt (.op 6 (.alt (.op 7 (.alt (.op 8 (.op 5 (.op 9 (.nil)))) (.op 5 (.op 8 (.op 9 (.nil)))))) (.op 5 (.op 7 (.op 8 (.op 9 (.nil))))))) (.alt (.op 7 (.alt (.op 6 (.alt (.op 8 (.op 5 (.op 9 (.nil)))) (.op 5 (.op 8 (.op 9 (.nil)))))) (.op 5 (.op 6 (.op 8 (.op 9 (.nil))))))) (.op 5 (.alt (.op 6 (.op 7 (.op 8 (.op 9 (.nil))))) (.op 7 (.op 6 (.op 8 (.op 9 (.nil)))))))))))))) (by kernel_rfl) ?_
  refine⟨0,rfl,by omega,?_⟩
  refine⟨exC x.1 x.2.1 x.2.2,zav _ _ _,zag b0 atx,Nat.lt_of_lt_of_le hbq b0.size,?_⟩
  refine⟨1,rfl,by omega,?_⟩
  refine And.intro ?_ (And.intro ?_ ?_)
  ·refine⟨(Below.refl _ _).alloc (Nat.le_refl _) _,?_⟩
   have b1:=b0.alloc b0.size zEx
   have z1:=World.size_alloc X.drew zEx
   refine And.intro ?_ ?_
   ·refine⟨(Below.refl _ _).alloc (Nat.le_refl _) _,?_⟩
    have b2:=b1.alloc b1.size zEx
    have z2:=World.size_alloc (X.drew.alloc zEx) zEx
    refine And.intro ?_ ?_
    ·refine zb8 (P:=X.drew.heap.size) (Q:=(X.drew.alloc zEx).heap.size) b2 (hold zEx (hnew X.drew zEx)) zaF (hnew (X.drew.alloc zEx) zEx) (by omega) (by omega) fun V3 p3 q3 b3=>?_
     refine⟨exC y.1 y.2.1 y.2.2,zav _ _ _,zag b3 aty,Nat.lt_of_lt_of_le hbq b3.size,?_⟩
     refine zb8 (P:=(X.drew.alloc zEx).heap.size) (Q:=X.drew.heap.size) b3 (q3) zaF (p3) (by omega) (by omega) fun V5 p5 q5 b5=>?_
     exact⟨(X.drew.heap.size,(X.drew.alloc zEx).heap.size),(cvE rfl rfl),q5,p5,b5⟩
    ·refine⟨exC y.1 y.2.1 y.2.2,zav _ _ _,zag b2 aty,Nat.lt_of_lt_of_le hbq b2.size,?_⟩
     refine zb8 (P:=X.drew.heap.size) (Q:=(X.drew.alloc zEx).heap.size) b2 (hold zEx (hnew X.drew zEx)) zaF (hnew (X.drew.alloc zEx) zEx) (by omega) (by omega) fun V7 p7 q7 b7=>?_
     refine zb8 (P:=(X.drew.alloc zEx).heap.size) (Q:=X.drew.heap.size) b7 (q7) zaF (p7) (by omega) (by omega) fun V8 p8 q8 b8=>?_
     exact⟨(X.drew.heap.size,(X.drew.alloc zEx).heap.size),(cvE rfl rfl),q8,p8,b8⟩
   ·refine⟨exC y.1 y.2.1 y.2.2,zav _ _ _,zag b1 aty,Nat.lt_of_lt_of_le hbq b1.size,?_⟩
    refine⟨(Below.refl _ _).alloc (Nat.le_refl _) _,?_⟩
    have b10:=b1.alloc b1.size zEx
    have z10:=World.size_alloc (X.drew.alloc zEx) zEx
    refine zb8 (P:=X.drew.heap.size) (Q:=(X.drew.alloc zEx).heap.size) b10 (hold zEx (hnew X.drew zEx)) zaF (hnew (X.drew.alloc zEx) zEx) (by omega) (by omega) fun V11 p11 q11 b11=>?_
    refine zb8 (P:=(X.drew.alloc zEx).heap.size) (Q:=X.drew.heap.size) b11 (q11) zaF (p11) (by omega) (by omega) fun V12 p12 q12 b12=>?_
    exact⟨(X.drew.heap.size,(X.drew.alloc zEx).heap.size),(cvE rfl rfl),q12,p12,b12⟩
  ·refine⟨(Below.refl _ _).alloc (Nat.le_refl _) _,?_⟩
   have b13:=b0.alloc b0.size zEx
   have z13:=World.size_alloc X.drew zEx
   refine And.intro ?_ ?_
   ·refine⟨(Below.refl _ _).alloc (Nat.le_refl _) _,?_⟩
    have b14:=b13.alloc b13.size zEx
    have z14:=World.size_alloc (X.drew.alloc zEx) zEx
    refine And.intro ?_ ?_
    ·refine zb8 (P:=(X.drew.alloc zEx).heap.size) (Q:=X.drew.heap.size) b14 (hnew (X.drew.alloc zEx) zEx) zaF (hold zEx (hnew X.drew zEx)) (by omega) (by omega) fun V15 p15 q15 b15=>?_
     refine⟨exC y.1 y.2.1 y.2.2,zav _ _ _,zag b15 aty,Nat.lt_of_lt_of_le hbq b15.size,?_⟩
     refine zb8 (P:=X.drew.heap.size) (Q:=(X.drew.alloc zEx).heap.size) b15 (q15) zaF (p15) (by omega) (by omega) fun V17 p17 q17 b17=>?_
     exact⟨((X.drew.alloc zEx).heap.size,X.drew.heap.size),(cvE rfl rfl),q17,p17,b17⟩
    ·refine⟨exC y.1 y.2.1 y.2.2,zav _ _ _,zag b14 aty,Nat.lt_of_lt_of_le hbq b14.size,?_⟩
     refine zb8 (P:=(X.drew.alloc zEx).heap.size) (Q:=X.drew.heap.size) b14 (hnew (X.drew.alloc zEx) zEx) zaF (hold zEx (hnew X.drew zEx)) (by omega) (by omega) fun V19 p19 q19 b19=>?_
     refine zb8 (P:=X.drew.heap.size) (Q:=(X.drew.alloc zEx).heap.size) b19 (q19) zaF (p19) (by omega) (by omega) fun V20 p20 q20 b20=>?_
     exact⟨((X.drew.alloc zEx).heap.size,X.drew.heap.size),(cvE rfl rfl),q20,p20,b20⟩
   ·refine⟨exC y.1 y.2.1 y.2.2,zav _ _ _,zag b13 aty,Nat.lt_of_lt_of_le hbq b13.size,?_⟩
    refine⟨(Below.refl _ _).alloc (Nat.le_refl _) _,?_⟩
    have b22:=b13.alloc b13.size zEx
    have z22:=World.size_alloc (X.drew.alloc zEx) zEx
    refine zb8 (P:=(X.drew.alloc zEx).heap.size) (Q:=X.drew.heap.size) b22 (hnew (X.drew.alloc zEx) zEx) zaF (hold zEx (hnew X.drew zEx)) (by omega) (by omega) fun V23 p23 q23 b23=>?_
    refine zb8 (P:=X.drew.heap.size) (Q:=(X.drew.alloc zEx).heap.size) b23 (q23) zaF (p23) (by omega) (by omega) fun V24 p24 q24 b24=>?_
    exact⟨((X.drew.alloc zEx).heap.size,X.drew.heap.size),(cvE rfl rfl),q24,p24,b24⟩
  ·refine⟨exC y.1 y.2.1 y.2.2,zav _ _ _,zag b0 aty,Nat.lt_of_lt_of_le hbq b0.size,?_⟩
   refine And.intro ?_ ?_
   ·refine⟨(Below.refl _ _).alloc (Nat.le_refl _) _,?_⟩
    have b26:=b0.alloc b0.size zEx
    have z26:=World.size_alloc X.drew zEx
    refine⟨(Below.refl _ _).alloc (Nat.le_refl _) _,?_⟩
    have b27:=b26.alloc b26.size zEx
    have z27:=World.size_alloc (X.drew.alloc zEx) zEx
    refine zb8 (P:=X.drew.heap.size) (Q:=(X.drew.alloc zEx).heap.size) b27 (hold zEx (hnew X.drew zEx)) zaF (hnew (X.drew.alloc zEx) zEx) (by omega) (by omega) fun V28 p28 q28 b28=>?_
    refine zb8 (P:=(X.drew.alloc zEx).heap.size) (Q:=X.drew.heap.size) b28 (q28) zaF (p28) (by omega) (by omega) fun V29 p29 q29 b29=>?_
    exact⟨(X.drew.heap.size,(X.drew.alloc zEx).heap.size),(cvE rfl rfl),q29,p29,b29⟩
   ·refine⟨(Below.refl _ _).alloc (Nat.le_refl _) _,?_⟩
    have b30:=b0.alloc b0.size zEx
    have z30:=World.size_alloc X.drew zEx
    refine⟨(Below.refl _ _).alloc (Nat.le_refl _) _,?_⟩
    have b31:=b30.alloc b30.size zEx
    have z31:=World.size_alloc (X.drew.alloc zEx) zEx
    refine zb8 (P:=(X.drew.alloc zEx).heap.size) (Q:=X.drew.heap.size) b31 (hnew (X.drew.alloc zEx) zEx) zaF (hold zEx (hnew X.drew zEx)) (by omega) (by omega) fun V32 p32 q32 b32=>?_
    refine zb8 (P:=X.drew.heap.size) (Q:=(X.drew.alloc zEx).heap.size) b32 (q32) zaF (p32) (by omega) (by omega) fun V33 p33 q33 b33=>?_
    exact⟨((X.drew.alloc zEx).heap.size,X.drew.heap.size),(cvE rfl rfl),q33,p33,b33⟩
 rintro⟨P,Q⟩ Y ⟨fX,fY,hbY⟩
 dsimp only at fX fY ⊢
 replace vx:=vx.below hbY
 replace vy:=vy.below hbY
 replace hbX:=hbX.trans (hbY.mono hbX.size)
 clear hbY atx aty cb3 l3 hbq
 clear X
 obtain⟨x,qx,cx⟩:=x
 obtain⟨y,qy,cy⟩:=y
 dsimp only at hx1 hy1 vx vy fX fY
 have hsay:=zqj
 have e1:xA=x:=hx1.symm
 have e2:yA=y:=hy1.symm
 rw [e1,e2] at hsay
 clear hx1 hy1 e1 e2
 simp only [Bool.and_eq_true,decide_eq_true_eq,Bool.not_eq_true'] at hsay
 obtain⟨s1,s2,s3,s4,s5,s6,s7,s8,s9,s10,s11,s12,s13⟩:=hsay
 rename World=>X
 have hvx:=zlu s12 vx
 have sxx:=zg8 x
 obtain⟨bx,ox,hqx,hbx,hatx⟩:=zdk vx (by omega)
 obtain⟨by_,oy,hqy,hby,haty⟩:=zdk vy (by omega)
 have atx:=hatx 2 (by omega)
 have aty:=haty 2 (by omega)
 subst hqx hqy
 have hbL:Below X.heap.size X X:=Below.refl _ _
 refine⟨_,zaT (zaa fX),?_⟩
 refine brE (decide_eq_true (by rw [s1];rfl)) ?_
 refine⟨_,zaT (zaa fX),?_⟩
 refine⟨2,rfl,by omega,?_⟩
 refine⟨u8 (evA x 2).v,by have:=zac atx (i:=3) (v:=u8 (evA x 2).v) rfl;exact this,?_⟩
 refine brE (decide_eq_true (by rw [s3];rfl)) ?_
 refine⟨_,zaT (zaa fY),?_⟩
 refine⟨2,rfl,by omega,?_⟩
 refine⟨u8 (evA y 2).v,by have:=zac aty (i:=3) (v:=u8 (evA y 2).v) rfl;exact this,?_⟩
 refine brE (decide_eq_true (by rw [s4];rfl)) ?_
 refine⟨0,rfl,by decide,?_⟩
 refine⟨s64 (x.rf.to 0),znh fX (by decide),?_⟩
 refine brE (decide_eq_true (by rw [s5];rfl)) ?_
 refine⟨1,rfl,by decide,?_⟩
 refine⟨s64 (y.rf.to 1),znh fY (by decide),?_⟩
 refine brE (decide_eq_true (by rw [s6];rfl)) ?_
 refine⟨0,rfl,by decide,?_⟩
 refine⟨s64 (x.co.to 0),zpe fX (by decide),?_⟩
 refine brE (decide_eq_true (by rw [s7];rfl)) ?_
 refine⟨_,zaf _,r_co fY,hlt fY,?_⟩
 refine⟨_,zaf _,r_co fX,hlt fX,?_⟩
 refine⟨_,fun w=>zcY _ _ _ _ w,?_⟩
 refine brE (s8) ?_
 refine⟨0,rfl,by decide,?_⟩
 refine⟨u8 (x.mem 0),zgH (zaa fX) (by decide),?_⟩
 refine brE (decide_eq_true (by rw [s9];rfl)) ?_
 refine⟨1,rfl,by decide,?_⟩
 refine⟨0,rfl,by decide,?_⟩
 refine⟨u8 (y.regs 8),zoj (zaa fY) (i:=1) (j:=0) (by decide),?_⟩
 refine brE (decide_eq_true (by rw [s10];rfl)) ?_
 refine⟨_,zav _ _ _,zaa fX,hlt fX,?_⟩
 refine Calls.mono (zjz (hvx.below hbL) (hG.t64.below hbX)) ?_
 rintro e U ⟨rfl,hbU⟩
 have fX:=zab hbU fX
 have fY:=zab hbU fY
 replace hbX:=hbX.trans (hbU.mono hbX.size)
 replace hbL:=hbL.trans (hbU.mono hbL.size)
 refine brE (s11) ?_
 refine⟨_,zav _ _ _,zaa fX,hlt fX,?_⟩
 refine⟨_,zav _ _ _,zaa fX,hlt fX,?_⟩
 refine Calls.mono (zgV (vx.below hbL) (vx.below hbL) (by omega)) ?_
 rintro e U ⟨rfl,hbU⟩
 have fX:=zab hbU fX
 have fY:=zab hbU fY
 replace hbX:=hbX.trans (hbU.mono hbX.size)
 replace hbL:=hbL.trans (hbU.mono hbL.size)
 refine brE (sxx) ?_
 refine⟨_,zav _ _ _,zaa fX,hlt fX,?_⟩
 refine⟨_,zav _ _ _,zaa fY,hlt fY,?_⟩
 refine Calls.mono (zgV (vx.below hbL) (vy.below hbL) (by omega)) ?_
 rintro e U ⟨rfl,hbU⟩
 have fX:=zab hbU fX
 have fY:=zab hbU fY
 replace hbX:=hbX.trans (hbU.mono hbX.size)
 replace hbL:=hbL.trans (hbU.mono hbL.size)
 exact⟨rb (by rw [s13];rfl),hbX⟩
theorem zpF {X:World} {x:ExD} {q:Option Addr} (h:SlR evE X q x.ev∧WX x) (h20:x.ev.length≤20):ExV X x q:=⟨h.1,h20,h.2.po,h.2.rf,h.2.co,h.2.dt,h.2.ct,h.2.rm⟩
section
variable {w:World} {c d:Nat} {x y:ExD} {q r:Option Addr}
theorem ziy (hv:SlR evE w q x.ev∧WX x) (hu:SlR evE w r y.ev∧WX y) (hl:x.ev.length<4611686018427387904) (hG:GlobE w):Calls Tryz.prog 3 #[.agg (exC x q c).toArray,.agg (exC y r d).toArray] w fun e w'=>e = .returned (.bool true)∧Below w.heap.size w w':=by
 refine zal (S:=sg 38) (sgOk _) (args:=[.agg (exC x q c).toArray,.agg (exC y r d).toArray]) (.c .p (.c .p .p)) Tryz.func3 rfl rfl (Nat.le_of_ble_eq_true rfl) rfl ?_
 have hx:=hv.1
 have hy:=hu.1
 obtain⟨L,hL⟩:=nm (w.heap.size)
 refine⟨Unit,fun _=>⟨[(2,At0 L),(3,At0 (L+1))],[]⟩,fun _ X=>ExH X L x q c∧ExH X (L+1) y r d∧Below w.heap.size w X,?_,?_⟩
 ·have s1:=World.size_alloc w (.cells (exC x q c).toArray 34)
  exact⟨(),⟨.cons (by rw [hL];rfl) (.cons (by rw [hL,← s1];rfl) .nil),rfl⟩,by rw [hL];exact hold _ (hnew w _),by rw [hL,← s1];exact hnew _ _,((Below.refl _ w).alloc (Nat.le_refl _) _).alloc ((Below.refl _ w).alloc (Nat.le_refl _) _).size _⟩
 rintro _ X ⟨fX,fY,hbX⟩
 refine⟨Unit,fun _=>⟨[(2,At0 L),(3,At0 (L+1))],[]⟩,fun _ Y=>(x.ev.length≤20∨48<x.ev.length)∧ExH Y L x q c∧ExH Y (L+1) y r d∧Below w.heap.size w Y,?_,?_⟩
 ·skip
  refine⟨_,zaT (zaa fX),?_⟩
  refine biE (fun h1=>?_) fun h1=>?_
  ·refine⟨_,zaT (zaa fX),?_⟩
   refine biE (fun h2=>?_) fun h2=>?_
   ·refine Calls.mono (zp7 (hG.below hbX)) ?_
    rintro e U ⟨rfl,hbU⟩
    exact⟨rfl,hbX.trans (hbU.mono hbX.size)⟩
   ·exact⟨(),(cvE rfl rfl),(by have:=of_decide_eq_true h1;have:=of_decide_eq_false h2;omega),fX,fY,hbX⟩
  ·refine brF ?_
   exact⟨(),(cvE rfl rfl),(by have:=of_decide_eq_false h1;omega),fX,fY,hbX⟩
 clear fX fY hbX
 clear X
 rintro _ X ⟨hcase,fX,fY,hbX⟩
 obtain⟨R,hRc,hR9⟩:∃ R:Bool,(∀ Y,Below w.heap.size w Y→Calls Tryz.prog 8 #[.agg (exC x q c).toArray] Y fun e w'=>e = .returned (.bool R)∧Below Y.heap.size Y w')∧(∀ Y,Below w.heap.size w Y→Calls Tryz.prog 9 #[.agg (exC x q c).toArray] Y fun e w'=>e = .returned (.bool R)∧Below Y.heap.size Y w'):=by
  rcases hcase with h20 | h48
  ·have hvx:=zpF hv h20
   exact⟨zbH x,fun Y hY=>zjz (hvx.below hY) (hG.t64.below hY),fun Y hY=>zmb (hvx.below hY)⟩
  ·exact⟨false,fun Y hY=>zke h48,fun Y hY=>ziA (hx.below hY) h48 hl⟩
 have dX:Below X.heap.size X X.drew:=(Below.refl _ _).drew
 refine DrawE.ord [] [0,2,1,3,4,5,6,7,9,10,8,11,12,13,14,15,16,17,18,19,20,21,22] (by kernel_rfl) ?_
 have fX:=zab dX fX
 have fY:=zab dX fY
 replace hbX:=hbX.trans (dX.mono hbX.size)
 clear dX
 refine⟨exC x q c,zav _ _ _,zaa fX,hlt fX,?_⟩
 refine⟨exC x q c,zav _ _ _,zaa fX,hlt fX,?_⟩
 refine Calls.mono (hRc _ hbX) ?_
 rintro e U ⟨rfl,hbU⟩
 refine⟨hbU,?_⟩
 have fX:=zab hbU fX
 have fY:=zab hbU fY
 replace hbX:=hbX.trans (hbU.mono hbX.size)
 refine Calls.mono (hR9 _ hbX) ?_
 rintro e U ⟨rfl,hbU⟩
 refine⟨hbU,?_⟩
 have fX:=zab hbU fX
 have fY:=zab hbU fY
 replace hbX:=hbX.trans (hbU.mono hbX.size)
 refine⟨_,fun w=>zfw _ _ (R) (R) w,?_⟩
 refine brE (decide_eq_true rfl) ?_
 refine⟨exC x q c,zav _ _ _,zaa fX,hlt fX,?_⟩
 refine⟨exC y r d,zav _ _ _,zaa fY,hlt fY,?_⟩
 refine⟨exC x q c,zav _ _ _,zaa fX,hlt fX,?_⟩
 refine⟨exC y r d,zav _ _ _,zaa fY,hlt fY,?_⟩
 refine Calls.mono (zgV (hx.below hbX) (hy.below hbX) hl) ?_
 rintro e U ⟨rfl,hbU⟩
 refine⟨hbU,?_⟩
 have fX:=zab hbU fX
 have fY:=zab hbU fY
 replace hbX:=hbX.trans (hbU.mono hbX.size)
 refine Calls.mono (zm7 (hx.below hbX) (hy.below hbX) hl) ?_
 rintro e U ⟨rfl,hbU⟩
 refine⟨hbU,?_⟩
 have fX:=zab hbU fX
 have fY:=zab hbU fY
 replace hbX:=hbX.trans (hbU.mono hbX.size)
 refine⟨_,fun w=>zfw _ _ (zcG x y) (zcG x y) w,?_⟩
 refine brE (decide_eq_true rfl) ?_
 refine⟨exC x q c,zav _ _ _,zaa fX,hlt fX,?_⟩
 refine⟨exC x q c,zav _ _ _,zaa fX,hlt fX,?_⟩
 refine Calls.mono (zgV (hx.below hbX) (hx.below hbX) hl) ?_
 rintro e U ⟨rfl,hbU⟩
 refine⟨hbU,?_⟩
 have fX:=zab hbU fX
 have fY:=zab hbU fY
 replace hbX:=hbX.trans (hbU.mono hbX.size)
 refine brE (zg8 x) ?_
 refine Calls.mono (zp7 (hG.below hbX)) ?_
 rintro e U ⟨rfl,hbU⟩
 refine⟨hbU,?_⟩
 have fX:=zab hbU fX
 have fY:=zab hbU fY
 replace hbX:=hbX.trans (hbU.mono hbX.size)
 exact⟨rfl,hbX⟩
end
end Go.Proofs.YtmbghmhjjodgmaaGreatDoor
namespace Go.Proofs.YtmbghmhjjodgmaaGreatDoor
open Go.Vc Go.RowKit Go.Sei
open Go.ChangeShapes Go.WideShapes Go.ChangeAt
section
variable {H:Type} {enc:TypeId×Value→H} {P:Program} {w:World} {base:Nat} {spare:Nat→Bool} {held:Bool} {fuel:Nat} {t:TypeId} {cs:List Value} {x:DataW H×List MemPlace}
theorem zk5 (ht:P.underlying t=some (.int .u8)) (h:DataW.trod enc P w base spare held fuel t cs=some x):∃ b:UInt8,cs=[u8 b]∧x.1 = .lit (.int .u8 b.toNat):=by
 obtain⟨n,rfl,rfl,hw⟩:=DataW.trod_int ht h
 have hb:=bounds_u8 hw
 have e:((UInt8.ofNat n.toNat).toNat:Int)=n:=by
  rw [UInt8.toNat_ofNat'];omega
 exact⟨UInt8.ofNat n.toNat,by rw [u8,e],by rw [e]⟩
theorem zeO {n:Nat} {e:TypeId} (ht:P.underlying t=some (.array n e)) (he:P.underlying e=some (.int .u8)) (hc:P.cellsOf e=1) (hn:P.cellsOf t=n)
  (h:DataW.trod enc P w base spare held fuel t cs=some x):∃ bs:List UInt8,bs.length=n∧cs=bs.map u8∧x.1 = .agg (bs.map fun b => .lit (.int .u8 b.toNat)):=by
 obtain⟨xs,m,rfl,rfl,hl,hx,hel⟩:=DataW.trod_array ht h
 rw [hn] at hl
 have each:∀ i (h:i<n),∃ b:UInt8,cs[i]?=some (u8 b)∧xs[i]?.map (·.1)=some (.lit (.int .u8 b.toNat)):=fun i hi=>by
  have h1:=hel i hi
  rw [hc,List.getElem?_eq_getElem (by omega)] at h1
  obtain⟨b,h2,h3⟩:=zk5 he h1
  refine⟨b,?_,by rw [List.getElem?_eq_getElem (by omega),Option.map_some,h3]⟩
  have:((cs.drop (i*1)).take 1)[0]?=some (u8 b):=by rw [h2];rfl
  simpa using this
 have:∀ k,k≤n→∃ bs:List UInt8,bs.length=k∧cs.take k=bs.map u8∧(xs.take k).map (·.1)=bs.map fun b => .lit (.int .u8 b.toNat):=by
  intro k
  induction k with
  | zero=>exact fun _=>⟨[],rfl,by simp,by simp⟩
  | succ k ih =>
   intro hk
   obtain⟨bs,h1,h2,h3⟩:=ih (by omega)
   obtain⟨b,h4,h5⟩:=each k (by omega)
   have hk1:k<cs.length:=by omega
   have hk2:k<xs.length:=by omega
   rw [List.getElem?_eq_getElem hk1] at h4
   rw [List.getElem?_eq_getElem hk2] at h5
   refine⟨bs++[b],by simp [h1],?_,?_⟩
   ·rw [List.take_succ_eq_append_getElem hk1,h2,Option.some.inj h4];simp
   ·rw [List.take_succ_eq_append_getElem hk2,List.map_append,h3]
    simp at h5
    simp [h5]
 obtain⟨bs,h1,h2,h3⟩:=this n (Nat.le_refl _)
 rw [List.take_of_length_le (by omega)] at h2 h3
 exact⟨bs,h1,h2,by rw [← h3]⟩
end
theorem zeG:Tryz.prog.cellsOf 5=1:=by kernel_rfl
theorem zjw (b o i:Nat):(⟨b,o,none⟩:Addr).add i=⟨b,o+i,none⟩:=by
 unfold Addr.add
 by_cases h:i=0
 ·simp [h]
 ·simp [h]
section
variable {w:World} {base:Nat} {cs:List Value}
theorem zhI {a:Addr} {n:Nat} (hn:0<n) (h:w.cells? base a n=some cs):a.spot=none∧a.block<w.heap.size∧zau w ⟨a.block,a.off,none⟩ cs:=by
 obtain⟨_,hl,hc⟩:=World.cells?_some h
 have h0:=hc 0 hn
 rw [List.getElem?_eq_getElem (by omega)] at h0
 have hs:a.spot=none:=by simpa [Addr.add] using World.cell?_spot h0
 obtain⟨b,o,s⟩:=a
 dsimp only at hs
 subst hs
 refine⟨rfl,World.block_lt_of_cell? _ _ h0,zb2 fun i v hv=>?_⟩
 have hi:i<n:=by have:=(List.getElem?_eq_some_iff.1 hv).1;omega
 have:=(hc i hi).trans hv
 rw [zjw] at this
 exact this
end
theorem zmu:ownKnob Tryz.prog.godebug=none:=by kernel_rfl
theorem zeC:laidOutB Tryz.prog=true:=by kernel_rfl
section
variable {H:Type} {enc:TypeId×Value→H} {P:Program} {w:World} {base:Nat} {spare:Nat→Bool} {held:Bool} {fuel:Nat} {t e:TypeId} {cs:List Value} {x:DataW H×List MemPlace}
def Opens (enc:TypeId×Value→H) (P:Program) (w:World) (base:Nat) (spare:Nat→Bool) (held:Bool) (t:TypeId) (R:List Value→Prop):Prop :=
 ∀ fuel cs x,DataW.trod enc P w base spare held fuel t cs=some x→R cs
theorem Opens.field {fs:Array Field} {R:List Value→Prop} {i:Nat} {f:Field} {n:Nat} {xs:List (DataW H×List MemPlace)} {m:Nat} (hel:∀ (i:Nat) (f:Field),fs[i]?=some f→DataW.trod enc P w base spare held m f.type ((cs.drop f.offset).take (P.cellsOf f.type))=xs[i]?)
  (hl:xs.length=fs.size) (hi:fs[i]?=some f) {o:Nat} (hoo:f.offset=o) (hn:P.cellsOf f.type=n) (ho:Opens enc P w base spare held f.type R):R ((cs.drop o).take n):=by
 subst hoo
 have h1:=hel i f hi
 have:i<fs.size:=(Array.getElem?_eq_some_iff.1 hi).1
 rw [List.getElem?_eq_getElem (by omega),hn] at h1
 exact ho _ _ _ h1
theorem zdu (ht:P.underlying t=some (.int .u8)):Opens enc P w base spare held t fun cs=>∃ b:UInt8,cs=[u8 b]:=fun fuel cs x h=>by
 obtain⟨b,h,_⟩:=zk5 ht h
 exact⟨b,h⟩
theorem zhq (ht:P.underlying t=some (.int .i64)):Opens enc P w base spare held t fun cs=>∃ b:Int,cs=[.int .i64 b]:=fun fuel cs x h=>by
 obtain⟨n,h,_,_⟩:=DataW.trod_int ht h
 exact⟨n,h⟩
theorem zk4 (ht:P.underlying t=some (.int .u64)):Opens enc P w base spare held t fun cs=>∃ n:Nat,n<18446744073709551616∧cs=[.int .u64 (n:Int)]:=fun fuel cs x h=>by
 obtain⟨n,rfl,_,hw⟩:=DataW.trod_int ht h
 have hb:0≤n∧n≤18446744073709551615:=by
  simp only [Lit.wf,decide_eq_true_eq,Bool.and_eq_true] at hw
  first
   | exact⟨by simpa [IntKind.min,IntKind.signed,IntKind.bits] using hw.1,by simpa [IntKind.max,IntKind.signed,IntKind.bits] using hw.2⟩
   | (simp [IntKind.min,IntKind.max,IntKind.signed,IntKind.bits] at hw;omega)
 exact⟨n.toNat,by omega,by congr 2;omega⟩
theorem zhp {n:Nat} (ht:P.underlying t=some (.array n e)) (he:P.underlying e=some (.int .u8)) (hc:P.cellsOf e=1) (hn:P.cellsOf t=n):Opens enc P w base spare held t fun cs=>∃ bs:List UInt8,bs.length=n∧cs=bs.map u8:=fun fuel cs x h=>by
 obtain⟨bs,h1,h2,_⟩:=zeO ht he hc hn h
 exact⟨bs,h1,h2⟩
theorem zle {β:Type} {n:Nat} (i0:β) {Q:Nat→β→Prop} (h:∀ i,i<n→∃ b,Q i b):∃ bs:List β,bs.length=n∧∀ i (hi:i<bs.length),Q i bs[i]:=by
 have h2:∀ i,∃ b,i<n→Q i b:=fun i=>by
  by_cases hi:i<n
  ·obtain⟨b,hb⟩:=h i hi;exact⟨b,fun _=>hb⟩
  ·exact⟨i0,fun h=>absurd h hi⟩
 obtain⟨g,hg⟩:=Classical.axiomOfChoice h2
 refine⟨(List.range n).map g,by simp,fun i hi=>?_⟩
 simp only [List.getElem_map,List.getElem_range]
 exact hg i (by simpa using hi)
theorem zlr {β:Type} {f:β→List Value} {sz:Nat}:∀ (bs:List β) (cs:List Value),cs.length=bs.length*sz→(∀ i (h:i<bs.length),(cs.drop (i*sz)).take sz=f bs[i])→cs=bs.flatMap f
 | [],cs,hl,_=>by simpa using hl
 | b::r,cs,hl,h=>by
  have h0:=h 0 (by simp)
  simp only [Nat.zero_mul,List.drop_zero,List.getElem_cons_zero] at h0
  rw [List.flatMap_cons,← h0]
  conv=>lhs;rw [← List.take_append_drop sz cs]
  congr 1
  refine zlr (sz:=sz) r (cs.drop sz) (by rw [List.length_drop,hl,List.length_cons,Nat.add_mul];omega) fun i hi=>?_
  have h1:=h (i+1) (by simpa using hi)
  rw [List.drop_drop]
  simpa [Nat.add_mul,Nat.add_comm] using h1
theorem zhr {β:Type} (i0:β) {f:β→List Value} {Q:β→Prop} {n sz:Nat} (ht:P.underlying t=some (.array n e)) (hc:P.cellsOf e=sz) (hn:P.cellsOf t=n*sz) (ho:Opens enc P w base spare held e fun cs=>∃ b,Q b∧cs=f b) :
  Opens enc P w base spare held t fun cs=>∃ bs:List β,bs.length=n∧(∀ b∈bs,Q b)∧cs=bs.flatMap f:=fun fuel cs x h=>by
 obtain⟨xs,m,rfl,rfl,hl,hx,hel⟩:=DataW.trod_array ht h
 rw [hn] at hl
 have each:∀ i,i<n→∃ b:β,Q b∧(cs.drop (i*sz)).take sz=f b:=fun i hi=>by
  have h1:=hel i hi
  rw [hc,List.getElem?_eq_getElem (by omega)] at h1
  exact ho _ _ _ h1
 obtain⟨bs,h1,h2⟩:=zle i0 each
 refine⟨bs,h1,fun b hb=>?_,zlr bs cs (by rw [hl,h1]) fun i hi=>(h2 i hi).2⟩
 obtain⟨i,hi,rfl⟩:=List.getElem_of_mem hb
 exact (h2 i hi).1
theorem zmJ {β:Type} (i0:β) {f:β→List Value} {Q:β→Prop} {sz:Nat} (hp:0<sz) (ht:P.underlying t=some (.slice e)) (hc:P.cellsOf e=sz) (ho:Opens enc P w base spare held e fun cs=>∃ b,Q b∧cs=f b) :
  Opens enc P w base spare held t fun cs=>∃ (p:Option Addr) (cap:Nat) (l:List β),cs=[.slice p l.length cap]∧l.length≤9223372036854775807∧(p=none→cap=0)∧(∀ b∈l,Q b)∧∃ b o,(l.length=0∨p=some ⟨b,o,none⟩)∧∀ i (hi:i<l.length),b<w.heap.size∧zau w ⟨b,o+i*sz,none⟩ (f l[i]):=fun fuel cs x h=>by
 rcases DataW.trod_slice ht h with ⟨rfl,_⟩ | ⟨a,len,cap,elems,rest,n,_,rfl,_,_,hlc,hcm,hlen,hel,_,_⟩
 ·exact⟨none,0,[],rfl,by simp,fun _=>rfl,by simp,0,0,.inl rfl,fun i hi=>by simp at hi⟩
 ·have each:∀ i,i<len→∃ m:β,Q m∧(a.add (i*sz)).spot=none∧(a.add (i*sz)).block<w.heap.size∧zau w ⟨(a.add (i*sz)).block,(a.add (i*sz)).off,none⟩ (f m):=fun i hi=>by
   have h1:=hel i hi
   rw [hc,List.getElem?_eq_getElem (by omega),Option.bind_eq_some_iff] at h1
   obtain⟨cs,h2,h3⟩:=h1
   obtain⟨m,hq,rfl⟩:=ho _ _ _ h3
   exact⟨m,hq,zhI hp h2⟩
  obtain⟨l,h1,h2⟩:=zle i0 each
  have hm:maxLen=9223372036854775807:=rfl
  refine⟨some a,cap,l,by rw [h1],by omega,(fun h=>by cases h),fun b hb=>?_,a.block,a.off,?_,fun i hi=>?_⟩
  ·obtain⟨i,hi,rfl⟩:=List.getElem_of_mem hb
   exact (h2 i hi).1
  ·by_cases h00:l.length=0
   ·exact .inl h00
   ·right
    have hsp:a.spot=none:=by
     have:=(h2 0 (by omega)).2.1
     simpa [Addr.add] using this
    obtain⟨b,o,s⟩:=a
    dsimp only at hsp
    subst hsp
    rfl
  ·have hsp:a.spot=none:=by
    have:=(h2 0 (by omega)).2.1
    simpa [Addr.add] using this
   obtain⟨b,o,s⟩:=a
   dsimp only at hsp
   subst hsp
   have:=(h2 i hi).2.2
   rw [zjw] at this
   exact this
theorem cut (cs:List Value) (o n o':Nat) (h:o+n=o'):cs.drop o=(cs.drop o).take n++cs.drop o':=by
 rw [← h,← List.drop_drop,List.take_append_drop]
end
theorem cC (t n:Nat) (h:Tryz.prog.cellsOf t=n):Tryz.prog.cellsOf t=n:=h
theorem zel {H:Type} {enc:TypeId×Value→H} {a:Assume} {C:Checked} {os:Os} {f:FuncId} {fn:Func} {s:ChangeSpec} {conds:List PathCond} {apart fresh handsOn again:Bool} {X:World→Array Value→Prop}
  (hX:∀ (w w':World) (args:Array Value),w.heap=w'.heap→X w args→X w' args)
  (own:ownKnob C.prog.godebug=none) (started:os.Started) (noInit:C.prog.inits.idxOf? f=none) (hfn:C.prog.funcs[f]?=some fn)
  (witness:∃ (w:World) (tape:Tape) (i:Input),w.os=os∧(w.forCall tape i).Shaped C.prog∧i.vars=[]∧Input.okWide C.prog (w.forCall tape i) .any w.heap.size f i ∧
   ((s.pre enc C.prog fn conds apart (w.forCall tape i).memory i.args∧X (w.forCall tape i).memory i.args)∧sizedMet enc C.prog fn (OpenSpec.ofChange s) apart (w.forCall tape i).memory i.args)∧a.holds C.prog (lone (Frame.enter C.prog f i.args .normal) [] (w.forCall tape i)))
  (contract:∀ (W:World) (base:Nat) (args:Array Value) (ds gs:List (DataW H)) (before:List MemPlace),
   (∀ (j:Nat) t v,fn.params[j]?=some t→args[j]?=some v→Value.okWide C.prog W .any base t v) →
   DataW.Whole enc C.prog fn.params.toList s.vars apart W args.toList ds gs before→X W args→W.ShapedOpen C.prog →
   (∃ ds gs before,DataW.Whole enc C.prog fn.params.toList (OpenSpec.ofChange s).vars apart W args.toList ds gs before∧∀ n∈DataW.weightsEach C.prog (fn.params.toList++(OpenSpec.ofChange s).bare.plain.varTypes C.prog) (ds++gs),n≤reachBytes) →
   Calls C.prog f args W fun e W'=>∃ v,e = .returned v∧s.post enc C.prog fn apart fresh handsOn again W args v W') :
  ReturnsInHanded a C os f .any (fun w args=>(s.pre enc C.prog fn conds apart w args∧X w args)∧sizedMet enc C.prog fn (OpenSpec.ofChange s) apart w args) (s.post enc C.prog fn apart fresh handsOn again):=by
 refine returnsInHanded_of_calls own started noInit witness ?_
 intro w tape i _ hsh _ hok hpre hholds
 obtain⟨_,_,_,fn',hfn',_,_,_,_,hval⟩:=hok
 have e:fn'=fn:=Option.some.inj (hfn'.symm.trans hfn)
 subst e
 obtain⟨⟨⟨ds,gs,before,hw,hc⟩,hx⟩,hz⟩:=hpre
 have hw':=DataW.Whole.of_heap (w':=w.forCall tape i) (by rfl) hw
 obtain⟨_,ds2,gs2,before2,hw2,hall⟩:=hz
 refine (contract (w.forCall tape i) w.heap.size i.args ds gs before hval hw' (hX _ _ _ (by rfl) hx) hsh ⟨ds2,gs2,before2,DataW.Whole.of_heap (w':=w.forCall tape i) (by rfl) hw2,fun n hn=>of_decide_eq_true (List.all_eq_true.1 hall n hn)⟩).mono fun e W' ⟨v,he,hp⟩=>?_
 subst he
 exact ChangeSpec.post_blind hp
section
variable {H:Type} {enc:TypeId×Value→H} {P:Program} {w:World} {base:Nat} {spare:Nat→Bool} {held:Bool} {fuel:Nat} {t:TypeId} {cs:List Value} {x:DataW H×List MemPlace}
def Wgt (P:Program) (t:TypeId) (d:DataW H):Prop:=∀ n∈d.weights P t,n≤reachBytes
theorem znB {ds:List (DataW H)} {e:TypeId} (h:∀ n∈DataW.weightsAll P e ds,n≤reachBytes):∀ d∈ds,Wgt P e d:=by
 induction ds with
 | nil=>intro d hd;cases hd
 | cons a r ih =>
  intro d hd
  simp only [DataW.weightsAll,List.mem_append] at h
  rcases List.mem_cons.1 hd with rfl | hd
  ·exact fun n hn=>h n (.inl hn)
  ·exact ih (fun n hn=>h n (.inr hn)) d hd
theorem zkt {e:TypeId} (ht:P.underlying t=some (.slice e)) {a:Option Addr} {len cap:Nat} (h:DataW.trod enc P w base spare held fuel t [.slice a len cap]=some x) (hw:Wgt P t x.1) (hb:Nat.ble 1 (P.bytesOf e)=true) :
  len≤reachBytes∧∀ i,i<len→∃ aa cs n y,a=some aa∧w.cells? base (aa.add (i*P.cellsOf e)) (P.cellsOf e)=some cs∧DataW.trod enc P w base spare held n e cs=some y∧Wgt P e y.1:=by
 rcases DataW.trod_slice ht h with ⟨hcs,hx⟩ | ⟨aa,l,c,elems,rest,n,_,hcs,hx,_,_,_,hlen,hel,_,_⟩
 ·simp only [List.cons.injEq,Value.slice.injEq,and_true] at hcs
  obtain⟨rfl,rfl,rfl⟩:=hcs
  exact⟨Nat.zero_le _,fun i hi=>absurd hi (Nat.not_lt_zero _)⟩
 ·simp only [List.cons.injEq,Value.slice.injEq,and_true] at hcs
  obtain⟨rfl,rfl,rfl⟩:=hcs
  subst hx
  have hw':∀ m,m∈((elems.map (·.1)).length+(rest.map (·.1)).length)*P.bytesOf e::(DataW.weightsAll P e (elems.map (·.1))++DataW.weightsAll P e (rest.map (·.1)))→m≤reachBytes:=fun m hm=>by
   refine hw m ?_
   simp only [DataW.weights,ht]
   exact hm
  have hb:=Nat.le_of_ble_eq_true hb
  constructor
  ·have h1:=hw' _ List.mem_cons_self
   simp only [List.length_map] at h1
   have:elems.length*1≤(elems.length+rest.length)*P.bytesOf e:=Nat.mul_le_mul (Nat.le_add_right _ _) hb
   omega
  ·intro i hi
   have h1:=hel i hi
   rw [List.getElem?_eq_getElem (by omega),Option.bind_eq_some_iff] at h1
   obtain⟨cs,h2,h3⟩:=h1
   refine⟨aa,cs,n,_,rfl,h2,h3,?_⟩
   refine znB (ds:=elems.map (·.1)) (fun m hm=>hw' m (List.mem_cons_of_mem _ (List.mem_append_left _ hm))) _ ?_
   exact List.mem_map_of_mem (List.getElem_mem _)
theorem zku {fs:Array Field} (ht:P.underlying t=some (.struct fs)) (h:DataW.trod enc P w base spare held fuel t cs=some x) (hw:Wgt P t x.1) {i:Nat} {f:Field} (hf:fs[i]?=some f) {T o k:Nat} {vs:List Value} (hT:f.type=T) (hO:f.offset=o) (hk:P.cellsOf T=k) (hv:(cs.drop o).take k=vs) :
  ∃ n y,DataW.trod enc P w base spare held n T vs=some y∧Wgt P T y.1:=by
 subst hT hO hk hv
 obtain⟨xs,n,rfl,rfl,hl,hx,hel⟩:=DataW.trod_struct ht h
 have h1:=hel i f hf
 have hi:i<xs.length:=by rw [hx];exact (Array.getElem?_eq_some_iff.1 hf).1
 rw [List.getElem?_eq_getElem hi] at h1
 refine⟨n,_,h1,fun m hm=>hw m ?_⟩
 simp only [DataW.weights,ht]
 refine DataW.weights_mem_each (j:=i) (t:=f.type) (d:=xs[i].1) ?_ ?_ m hm
 ·rw [List.getElem?_map]
  have:fs.toList[i]?=some f:=by simpa using hf
  rw [this];rfl
 ·rw [List.getElem?_map,List.getElem?_eq_getElem hi];rfl
end
theorem zgy {H:Type}:∀ {a b:List UInt8},a.map (fun b=>(DataW.lit (.int .u8 b.toNat):DataW H))=b.map (fun b=>DataW.lit (.int .u8 b.toNat))→a=b
 | [],[],_=>rfl
 | [],_::_,h=>by cases h
 | _::_,[],h=>by cases h
 | x::a,y::b,h=>by
  simp only [List.map_cons,List.cons.injEq,DataW.lit.injEq,Lit.int.injEq,true_and] at h
  rw [zgy h.2,UInt8.toNat_inj.1 (by omega:x.toNat=y.toNat)]
theorem zgw {α:Type} (d:α) (f:α→Value) (n:Nat) (l:List α) (h:l.length=n):l.map f=(List.range n).map fun i=>f (l.getD i d):=by
 apply List.ext_getElem?
 intro i
 rw [List.getElem?_map,List.getElem?_map]
 by_cases hi:i<n
 ·rw [List.getElem?_range hi,List.getElem?_eq_getElem (by omega),Option.map_some,Option.map_some,List.getD_eq_getElem?_getD,List.getElem?_eq_getElem (by omega)];rfl
 ·rw [List.getElem?_eq_none (by omega),List.getElem?_eq_none (by rw [List.length_range];omega)];rfl
theorem zft {α:Type} (f:α→Value):∀ l:List α,l.flatMap (fun x=>[f x])=l.map f
 | []=>rfl
 | a::l=>by rw [List.flatMap_cons,zft f l];rfl
theorem flatMap_map {α:Type} (f:α→Value):∀ l:List (List α),l.flatMap (fun x=>x.map f)=l.flatten.map f
 | []=>rfl
 | a::l=>by rw [List.flatMap_cons,flatMap_map f l,List.flatten_cons,List.map_append]
section
variable {H:Type} {enc:TypeId×Value→H} {w:World} {base:Nat} {spare:Nat→Bool} {held:Bool}
theorem zmK:Opens enc Tryz.prog w base spare held 54 fun cs=>∃ e:Ev,True∧cs=evE.enc e:=fun fuel cs x h=>by
 obtain⟨xs,m,rfl,rfl,hl,hx,hel⟩:=DataW.trod_struct Tryz.underlying54 h
 rw [cC 54 7 (by kernel_rfl)] at hl
 obtain⟨b0,e0⟩:=Opens.field (o:=0) (i:=0) hel hx rfl rfl (cC 3 1 (by kernel_rfl)) (zhq Tryz.underlying3)
 obtain⟨b1,e1⟩:=Opens.field (o:=1) (i:=1) hel hx rfl rfl zeG (zdu Tryz.underlying5)
 obtain⟨b2,e2⟩:=Opens.field (o:=2) (i:=2) hel hx rfl rfl zeG (zdu Tryz.underlying5)
 obtain⟨b3,e3⟩:=Opens.field (o:=3) (i:=3) hel hx rfl rfl zeG (zdu Tryz.underlying5)
 obtain⟨b4,e4⟩:=Opens.field (o:=4) (i:=4) hel hx rfl rfl zeG (zdu Tryz.underlying5)
 obtain⟨b5,e5⟩:=Opens.field (o:=5) (i:=5) hel hx rfl rfl zeG (zdu Tryz.underlying5)
 obtain⟨b6,e6⟩:=Opens.field (o:=6) (i:=6) hel hx rfl rfl zeG (zdu Tryz.underlying5)
 refine⟨⟨b0,b1,b2,b3,b4,b5,b6⟩,trivial,?_⟩
 have h0:cs=cs.drop 0:=rfl
 have h9:cs.drop 7=[]:=List.drop_of_length_le (by omega)
 rw [h0,cut cs 0 1 1 rfl,cut cs 1 1 2 rfl,cut cs 2 1 3 rfl,cut cs 3 1 4 rfl,cut cs 4 1 5 rfl,cut cs 5 1 6 rfl,cut cs 6 1 7 rfl,e0,e1,e2,e3,e4,e5,e6,h9]
 rfl
theorem zcI:Opens enc Tryz.prog w base spare held 27 fun cs=>∃ r:RelD,WrdR r.to∧cs=relC r:=fun fuel cs x h=>by
 obtain⟨xs,m,rfl,rfl,hl,hx,hel⟩:=DataW.trod_struct Tryz.underlying27 h
 rw [cC 27 49 (by kernel_rfl)] at hl
 obtain⟨n,e0⟩:=Opens.field (o:=0) (i:=0) hel hx rfl rfl (cC 3 1 (by kernel_rfl)) (zhq Tryz.underlying3)
 obtain⟨bs,h1,h2,e1⟩:=Opens.field (o:=1) (i:=1) hel hx rfl rfl (cC 25 48 (by kernel_rfl)) (zhr (β:=Nat) 0 (f:=fun n=>[s64 n]) (Q:=fun n=>n<18446744073709551616) (n:=48) (sz:=1) Tryz.underlying25 (by kernel_rfl) (by kernel_rfl) (zk4 Tryz.underlying24))
 refine⟨⟨n,fun i=>bs.getD i 0⟩,fun i hi=>?_,?_⟩
 ·show bs.getD i 0<2^64
  rw [List.getD_eq_getElem?_getD,List.getElem?_eq_getElem (by omega)]
  exact h2 _ (List.getElem_mem _)
 have h0:cs=cs.drop 0:=rfl
 have h9:cs.drop 49=[]:=List.drop_of_length_le (by omega)
 rw [h0,cut cs 0 1 1 rfl,cut cs 1 48 49 rfl,e0,e1,h9,zft,zgw 0 s64 48 bs h1,List.append_nil]
 rfl
theorem zh7:Opens enc Tryz.prog w base spare held 32 fun cs=>∃ (f g:Nat→UInt8),cs=seg 32 (fun i=>u8 (f i))++seg 6 (fun i=>u8 (g i)):=fun fuel cs x h=>by
 obtain⟨xs,m,rfl,rfl,hl,hx,hel⟩:=DataW.trod_struct Tryz.underlying32 h
 rw [cC 32 38 (by kernel_rfl)] at hl
 have row:Opens enc Tryz.prog w base spare held 28 fun cs=>∃ bs:List UInt8,bs.length=8∧cs=bs.map u8:=zhp Tryz.underlying28 Tryz.underlying5 zeG (cC 28 8 (by kernel_rfl))
 obtain⟨bss,h1,h2,e0⟩:=Opens.field (o:=0) (i:=0) hel hx rfl rfl (cC 29 32 (by kernel_rfl)) (zhr (β:=List UInt8) [] (f:=fun bs=>bs.map u8) (Q:=fun bs=>bs.length=8) (n:=4) (sz:=8) Tryz.underlying29 (by kernel_rfl) (by kernel_rfl) row)
 obtain⟨ms,h3,e1⟩:=Opens.field (o:=32) (i:=1) hel hx rfl rfl (cC 30 6 (by kernel_rfl)) (zhp Tryz.underlying30 Tryz.underlying5 zeG (cC 30 6 (by kernel_rfl)))
 have hfl:bss.flatten.length=32:=by
  match bss,h1 with
  | [a,b,c,d],_ =>
   have:=h2 a (by simp);have:=h2 b (by simp);have:=h2 c (by simp);have:=h2 d (by simp)
   simp only [List.flatten_cons,List.flatten_nil,List.length_append,List.length_nil];omega
 refine⟨fun i=>bss.flatten.getD i 0,fun i=>ms.getD i 0,?_⟩
 have h0:cs=cs.drop 0:=rfl
 have h9:cs.drop 38=[]:=List.drop_of_length_le (by omega)
 rw [h0,cut cs 0 32 32 rfl,cut cs 32 6 38 rfl,e0,e1,h9,flatMap_map,zgw 0 u8 32 _ hfl,zgw 0 u8 6 ms h3,List.append_nil]
 rfl
theorem zpb {α:Type} {E:Enc α} {p:Option Addr} {l:List α} {b o:Nat} (h1:l.length=0∨p=some ⟨b,o,none⟩) (h2:∀ i (hi:i<l.length),b<w.heap.size∧zau w ⟨b,o+i*E.sz,none⟩ (E.enc l[i])):SlR E w p l:=by
 rcases h1 with h | h
 ·exact .inl (List.eq_nil_of_length_eq_zero h)
 ·by_cases h0:l=[]
  ·exact .inl h0
  ·have hl:=List.length_pos_iff.2 h0
   exact .inr ⟨b,o,h,(h2 0 hl).1,fun i hi=>(h2 i hi).2⟩
theorem zjU:Opens enc Tryz.prog w base spare held 34 fun cs=>∃ (x:ExD) (q:Option Addr) (c:Nat),(SlR evE w q x.ev∧WX x)∧cs=exC x q c:=fun fuel cs x h=>by
 obtain⟨xs,m,rfl,rfl,hl,hx,hel⟩:=DataW.trod_struct Tryz.underlying34 h
 rw [cC 34 333 (by kernel_rfl)] at hl
 obtain⟨q,c,l,e0,_,_,_,b,o,hp,hc⟩:=Opens.field (o:=0) (i:=0) hel hx rfl rfl (cC 22 1 (by kernel_rfl)) (zmJ (β:=Ev) ev0 (f:=evE.enc) (Q:=fun _=>True) (sz:=7) (by decide) Tryz.underlying22 (by kernel_rfl) zmK)
 have c49:=cC 27 49 (by kernel_rfl)
 obtain⟨r1,w1,e1⟩:=Opens.field (o:=1) (i:=1) hel hx rfl rfl c49 zcI
 obtain⟨r2,w2,e2⟩:=Opens.field (o:=50) (i:=2) hel hx rfl rfl c49 zcI
 obtain⟨r3,w3,e3⟩:=Opens.field (o:=99) (i:=3) hel hx rfl rfl c49 zcI
 obtain⟨r4,w4,e4⟩:=Opens.field (o:=148) (i:=4) hel hx rfl rfl c49 zcI
 obtain⟨r5,w5,e5⟩:=Opens.field (o:=197) (i:=5) hel hx rfl rfl c49 zcI
 obtain⟨r6,w6,e6⟩:=Opens.field (o:=246) (i:=6) hel hx rfl rfl c49 zcI
 obtain⟨f,g,e7⟩:=Opens.field (o:=295) (i:=7) hel hx rfl rfl (cC 32 38 (by kernel_rfl)) zh7
 refine⟨⟨l,r1,r2,r3,r4,r5,r6,f,g⟩,q,c,⟨zpb hp hc,⟨w1,w2,w3,w4,w5,w6⟩⟩,?_⟩
 have h0:cs=cs.drop 0:=rfl
 have h9:cs.drop 333=[]:=List.drop_of_length_le (by omega)
 rw [h0,cut cs 0 1 1 rfl,cut cs 1 49 50 rfl,cut cs 50 49 99 rfl,cut cs 99 49 148 rfl,cut cs 148 49 197 rfl,cut cs 197 49 246 rfl,cut cs 246 49 295 rfl,cut cs 295 38 333 rfl,e0,e1,e2,e3,e4,e5,e6,e7,h9,List.append_nil]
 rfl
theorem zfX {a:Array Value} {d:DataW H} {p:List MemPlace} (h:DataW.Trod enc Tryz.prog w base spare held 34 (.agg a) d p):∃ (x:ExD) (q:Option Addr) (c:Nat),Value.agg a = .agg (exC x q c).toArray∧(SlR evE w q x.ev∧WX x):=by
 obtain⟨fuel,h⟩:=h
 obtain⟨x,q,c,hr,hc⟩:=zjU _ _ _ h
 have:a.toList=exC x q c:=hc
 exact⟨x,q,c,by rw [← this],hr⟩
end
section
variable {H:Type} {enc:TypeId×Value→H} {w:World} {base:Nat} {spare:Nat→Bool} {held:Bool}
theorem zlf {a:Array Value} {d:DataW H} {p:List MemPlace} {x:ExD} {q:Option Addr} {c:Nat} (h:DataW.Trod enc Tryz.prog w base spare held 34 (.agg a) d p) (hw:Wgt Tryz.prog 34 d) (he:Value.agg a = .agg (exC x q c).toArray):x.ev.length<4611686018427387904:=by
 obtain⟨fuel,h⟩:=h
 have hcs:(Value.agg a).cells.toList=exC x q c:=by rw [he];rfl
 rw [hcs] at h
 obtain⟨n0,y0,e0,w0⟩:=zku (i:=0) (vs:=[.slice q x.ev.length c]) Tryz.underlying34 h hw rfl rfl rfl (cC 22 1 (by kernel_rfl)) rfl
 have l0:=(zkt Tryz.underlying22 e0 w0 (by kernel_rfl)).1
 exact Nat.lt_of_le_of_lt l0 (by decide)
end
end Go.Proofs.YtmbghmhjjodgmaaGreatDoor
namespace Go.Proofs.YtmbghmhjjodgmaaGreatDoor
open Go.Vc Go.RowKit Go.Sei
end Go.Proofs.YtmbghmhjjodgmaaGreatDoor
namespace Go.Proofs.YtmbghmhjjodgmaaGreatDoor
open Go.Vc Go.RowKit Go.Sei
open Go.ChangeShapes Go.WideShapes Go.ChangeAt
structure GlobM (W:World):Prop where
 t32:Tz32M W
 t64:Tz64M W
 needs:GlobC W
abbrev zcn : List (String × DataW Unit) := [("math/bits.deBruijn32tab", Rows.laid_math_bits_deBruijn32tab), ("math/bits.deBruijn64tab", Rows.laid_math_bits_deBruijn64tab), ("seisin/check.needs", Rows.laid_seisin_check_needs)]
theorem zcV {W:World} (h:laidMetH Tryz.prog zcn W) (hsh:W.ShapedOpen Tryz.prog):GlobM W:=by
 have h0:laidMet Tryz.prog zcn W:=h
 have h1:=h0.tail
 have h2:=h1.tail
 have t32:Tz32M W:=by
  obtain⟨ps,⟨g',t',cs,fuel,p,q,hg',ht',hv,hd,_,_⟩,_⟩:=h0
  obtain rfl := Option.some.inj ((show Tryz.prog.globalNamed "math/bits.deBruijn32tab" = some 2 by kernel_rfl).symm.trans hg')
  obtain rfl:=Option.some.inj ((show (Tryz.prog.globals[2]?).map (·.type)=some 280 by kernel_rfl).symm.trans ht')
  obtain⟨bs,h1,h2,h3⟩:=zeO Tryz.underlying280 Tryz.underlying5 (by kernel_rfl) (by kernel_rfl) hd
  have hbs:bs=zjF:=by
   have e:(Rows.laid_math_bits_deBruijn32tab:DataW Unit) = .agg (zjF.map fun b => .lit (.int .u8 b.toNat)):=rfl
   exact zgy (DataW.agg.inj (h3.symm.trans e))
  subst hbs
  refine zb2 fun i v hvv=>?_
  have hc:=World.var?_cell hg' hv i
  rw [← hvv,← h2]
  simpa using hc
 have t64:Tz64M W:=by
  obtain⟨ps,⟨g',t',cs,fuel,p,q,hg',ht',hv,hd,_,_⟩,_⟩:=h1
  obtain rfl := Option.some.inj ((show Tryz.prog.globalNamed "math/bits.deBruijn64tab" = some 0 by kernel_rfl).symm.trans hg')
  obtain rfl:=Option.some.inj ((show (Tryz.prog.globals[0]?).map (·.type)=some 217 by kernel_rfl).symm.trans ht')
  obtain⟨bs,h1,h2,h3⟩:=zeO Tryz.underlying217 Tryz.underlying5 (by kernel_rfl) (by kernel_rfl) hd
  have hbs:bs=zjE:=by
   have e:(Rows.laid_math_bits_deBruijn64tab:DataW Unit) = .agg (zjE.map fun b => .lit (.int .u8 b.toNat)):=rfl
   exact zgy (DataW.agg.inj (h3.symm.trans e))
  subst hbs
  refine zb2 fun i v hvv=>?_
  have hc:=World.var?_cell hg' hv i
  rw [← hvv,← h2]
  simpa using hc
 have needs:GlobC W:=by
  obtain⟨ps,⟨g',t',cs,fuel,p,q,hg',ht',hv,hd,_,_⟩,_⟩:=h2
  obtain rfl := Option.some.inj ((show Tryz.prog.globalNamed "seisin/check.needs" = some 1 by kernel_rfl).symm.trans hg')
  obtain rfl:=Option.some.inj ((show (Tryz.prog.globals[1]?).map (·.type)=some 270 by kernel_rfl).symm.trans ht')
  obtain⟨bs,h1,h2,h3⟩:=zeO Tryz.underlying270 Tryz.underlying5 (by kernel_rfl) (by kernel_rfl) hd
  have hbs:bs=zgr:=by
   match bs,h1 with
   | [b0,b1,b2,b3,b4,b5,b6,b7,b8],_ =>
    simp only [Rows.laid_seisin_check_needs,List.map_cons,List.map_nil,DataW.agg.injEq,List.cons.injEq,DataW.lit.injEq,Lit.int.injEq,true_and,and_true] at h3
    simp only [zgr,List.cons.injEq,and_true]
    obtain⟨a0,a1,a2,a3,a4,a5,a6,a7,a8⟩:=h3
    refine⟨?_,?_,?_,?_,?_,?_,?_,?_,?_⟩ <;> (apply UInt8.toNat_inj.1;simp;omega)
  subst hbs
  refine zb2 fun i v hvv=>?_
  have hc:=World.var?_cell hg' hv i
  rw [← hvv,← h2]
  simpa using hc
 exact⟨t32,t64,needs⟩
def zpw:DataW Unit→List Value
 | .lit (.int k n)=>[.int k n]
 | .lit (.string s)=>[.string ⟨s.toArray⟩]
 | _=>[]
def zn6:DataW Unit→List Value
 | .agg ps=>ps.flatMap zpw
 | x=>zpw x
def znL (h:Array Obj) (g:Nat) (cs:List Value):Array Obj:=h.modify g fun
 | .cells _ t frozen => .cells cs.toArray t frozen
 | o=>o
def zqv (h:Array Obj):Array Obj :=
 let h1:=znL h 2 (zn6 Rows.laid_math_bits_deBruijn32tab)
 let h2:=znL h1 0 (zn6 Rows.laid_math_bits_deBruijn64tab)
 znL h2 1 (zn6 Rows.laid_seisin_check_needs)
noncomputable def zf0 (os:Os):World :=
 { World.holding Tryz.prog os ⟨#[],#[],[]⟩ with heap:=zqv (World.holding Tryz.prog os ⟨#[],#[],[]⟩).heap }
theorem zfK (os:Os) (args:Array Value):laidMetH Tryz.prog zcn ((zf0 os).forCall (fun _ _=>0) ⟨#[],args,[]⟩).memory:=by
 show laidMet Tryz.prog zcn _
 exact laidMet_of_run' 8 (by kernel_rfl) (by kernel_rfl)
end Go.Proofs.YtmbghmhjjodgmaaGreatDoor
