/- Contracts: the events of an execution checked. Ranges over functions that hand over blocks of their own with what they hand; rounds that never stop. Contracts: the candidates of a choice, one by one: what the iterator makes first. Contracts: the candidates of a choice, one by one. Plain: the memory models. Plain: bits of relations. Contracts: the sources of the reads checked. Contracts: the size of a set; a short list of numbers sorted by the sizes of rows. Contracts: the writes of a location put in order. Contracts: the coherence order checked. Contracts: the dependencies checked. Contracts: executions checked (cand.Right). Contracts: small functions of the models: pairs, the relation of a closure, unions. Plain: the pairs of relations that are built from others; acyclic relations. Plain: a weaker model allows what a stronger one allows, and preserves no more. Plain: what the parts of an execution's relations lead to. Plain: the reference's answer to what is well-formed: program order, sources, dependencies. Plain: the reference's answer to what is well-formed: dependencies. Plain: lists and what stands ahead of an item; sorted lists; counting. Plain: acyclic relations by walks, and by Warshall's way. Plain: the reference's answer to what is well-formed: the coherence order, the last values. -/
import Derived.Test.YtmbghmhjjodgmaaGreatDoorT4
import Derived.Test.YtmbghmhjjodgmaaGreatDoorT2
import Derived.Test.YtmbghmhjjodgmaaGreatDoorT1
set_option linter.unusedSimpArgs false
set_option linter.unusedVariables false
namespace Go.Proofs.YtmbghmhjjodgmaaGreatDoor
open Go.Vc Go.RowKit Go.Sei
theorem zet:∀ (ev:List Ev) (k:Nat),(∀ j,j<k→(ev.getD j ev0).th = -1)→k≤ev.length→zaD ev=k+zaD (ev.drop k)
 | ev,0,_,_=>by rw [List.drop_zero,Nat.zero_add]
 | [],k+1,_,h=>by simp at h
 | e::ev,k+1,hj,h=>by
  have h0:e.th = -1:=hj 0 (by omega)
  have ih:=zet ev k (fun j hjk=>hj (j+1) (by omega)) (by simpa using h)
  unfold zaD at ih ⊢
  rw [List.takeWhile_cons,if_pos (decide_eq_true h0),List.length_cons,ih,List.drop_succ_cons]
  omega
section
variable {q:Option Addr} {c:Nat} {ev:List Ev} {w:World}
theorem zj0 (hl:SlR evE w q ev) (hn:ev.length≤1000):Calls Tryz.prog 39 #[.slice q ev.length c] w fun e w'=>e = .returned (i64 (zaD ev:Nat))∧Below w.heap.size w w':=by
 refine zae (S:=sg 19) (sgOk _) (args:=[.slice q ev.length c]) Tryz.func39 rfl rfl (Nat.le_of_ble_eq_true rfl) rfl ?_
 refine⟨Nat,fun k=>⟨[(0,.slice q ev.length c),(5,.slice q ev.length c),(6,i64 ev.length),(7,i64 (k:Nat))],[]⟩,fun k X=>k≤ev.length∧(∀ j,j<k→(ev.getD j ev0).th = -1)∧Below w.heap.size w X,fun k=>ev.length-k,0,(cvE rfl rfl),⟨Nat.zero_le _,fun j h=>by omega,Below.refl _ _⟩,?_⟩
 rintro k X ⟨hk,hj,hbX⟩
 dsimp only
 have hXs:=hbX.size
 refine biE (fun hc=>?_) fun hc=>?_
 ·have hc:(k:Int)<(ev.length:Int):=of_decide_eq_true hc
  have hkl:k<ev.length:=by omega
  obtain⟨b,o,rfl,hb,hat⟩:=zdK (hl.below hbX) hkl
  obtain⟨e,he⟩:=nm (ev.getD k ev0)
  rw [← he] at hat
  refine⟨k,rfl,hkl,?_⟩
  refine⟨evE.enc e,rfl,hat,hb,?_⟩
  refine zap (X:=X) (v := .agg (evE.enc e).toArray) (ttOk.get 54 _ rfl) rfl rfl (List.all_eq_true.2 fun u hu=>evE.one e u hu) fun Y hbY fY sY=>?_
  have fY:Y.heap[X.heap.size]?=some (.cells (evE.enc e).toArray 54 (0,0)):=fY
  refine⟨i64 e.th,zac (zaa fY) (i:=0) rfl,?_⟩
  have hbY2:=hbX.trans (hbY.mono hXs)
  refine biE (fun h=>?_) fun h=>?_
  ·have h:(!decide (e.th = -1))=true:=h
   have h:¬ e.th = -1:=by simpa using h
   refine⟨?_,hbY2⟩
   have h2:=zet ev k hj hk
   have h3:zaD (ev.drop k)=0:=by
    unfold zaD
    have h4:ev[k]=e:=by rw [he,List.getD_eq_getElem?_getD,List.getElem?_eq_getElem hkl];rfl
    rw [← List.getElem_cons_drop hkl,List.takeWhile_cons,h4,if_neg (by simpa using h)];rfl
   rw [h3] at h2
   exact ri (by omega)
  ·have h:(!decide (e.th = -1))=false:=h
   have h:e.th = -1:=by simpa using h
   refine⟨((k+1:Nat):Int),(zad (by omega)).trans (by omega),?_⟩
   refine⟨k+1,(cvE rfl rfl),⟨hkl,fun j hjk=>?_,hbY2⟩,by show ev.length-(k+1)<ev.length-k;omega⟩
   by_cases e2:j=k
   ·rw [e2,← he];exact h
   ·exact hj j (by omega)
 ·have hc:¬ (k:Int)<(ev.length:Int):=of_decide_eq_false hc
  obtain rfl:k=ev.length:=by omega
  refine⟨?_,hbX⟩
  have h2:=zet ev ev.length hj (Nat.le_refl _)
  rw [List.drop_length] at h2
  exact ri (by rw [h2];show ((ev.length:Nat):Int)=((ev.length+0:Nat):Int);rfl)
theorem zm3 {i:Nat} {v:UInt8}:zfN (ziY [(0,1,false),(1,1,false),(2,1,false),(3,1,false),(4,1,false),(5,1,false),(6,1,false)]) (evE.enc ev0) [(0,i64 (-1)),(1,u8 2),(2,u8 (UInt8.ofNat i)),(3,u8 v)]=some (evE.enc ⟨-1,2,UInt8.ofNat i,v,0,0,0⟩):=rfl
theorem zgJ {locs:Nat} (hl:SlR evE w q ev) (hn:ev.length≤1000) (hlo:locs≤1000):Calls Tryz.prog 40 #[.slice q ev.length c,i64 locs] w fun e w'=>e = .returned (.bool (zbl ev locs))∧Below w.heap.size w w':=by
 refine zae (S:=sg 69) (sgOk _) (args:=[.slice q ev.length c,i64 locs]) Tryz.func40 rfl rfl (Nat.le_of_ble_eq_true rfl) rfl ?_
 refine⟨Nat×Int×Nat,fun s=>⟨[(1,i64 locs),(5,i64 s.2.1),(6,i64 (s.2.2:Nat)),(9,.slice q ev.length c),(10,i64 ev.length),(11,i64 (s.1:Nat))],[]⟩,fun s X=>s.1≤ev.length∧s.2.2≤s.1∧evGo locs s.1 (ev.drop s.1) s.2.1 s.2.2=zbl ev locs∧Below w.heap.size w X,fun s=>ev.length-s.1,(0,0,0),(cvE rfl rfl),⟨Nat.zero_le _,Nat.le_refl _,rfl,Below.refl _ _⟩,?_⟩
 rintro⟨k,t,m⟩ X ⟨hk,hm,hgo,hbX⟩
 dsimp only at hk hm hgo ⊢
 have hXs:=hbX.size
 refine biE (fun hc=>?_) fun hc=>?_
 ·have hc:(k:Int)<(ev.length:Int):=of_decide_eq_true hc
  have hkl:k<ev.length:=by omega
  obtain⟨b,o,rfl,hb,hat⟩:=zdK (hl.below hbX) hkl
  obtain⟨e,he⟩:=nm (ev.getD k ev0)
  rw [← he] at hat
  have hdr:ev.drop k=e::ev.drop (k+1):=by
   rw [← List.getElem_cons_drop hkl,he,List.getD_eq_getElem?_getD,List.getElem?_eq_getElem hkl];rfl
  rw [hdr] at hgo
  unfold evGo at hgo
  refine⟨k,rfl,hkl,?_⟩
  refine⟨evE.enc e,rfl,hat,hb,?_⟩
  refine zap (X:=X) (v := .agg (evE.enc e).toArray) (ttOk.get 54 _ rfl) rfl rfl (List.all_eq_true.2 fun u hu=>evE.one e u hu) fun Y hbY fY sY=>?_
  have fY:Y.heap[X.heap.size]?=some (.cells (evE.enc e).toArray 54 (0,0)):=fY
  have hbY2:=hbX.trans (hbY.mono hXs)
  have ld:∀ {i:Nat} {v:Value},(evE.enc e)[i]?=some v→Y.cell? ⟨X.heap.size,0+i,none⟩=some v:=fun h=>zac (zaa fY) h
  have no:zbl ev locs=false→(Ending.returned (.bool false)=Ending.returned (.bool (zbl ev locs))∧Below w.heap.size w Y):=fun h=>⟨rb h.symm,hbY2⟩
  refine biE (fun h=>?_) fun h=>?_
  ·have h:(k:Int)<(locs:Int):=of_decide_eq_true h
   rw [if_pos (by omega:k<locs)] at hgo
   refine⟨evE.enc e,rfl,zaa fY,hlt fY,?_⟩
   refine⟨_,w8N k,?_⟩
   refine⟨u8 e.v,ld (i:=3) rfl,?_⟩
   refine⟨evE.enc ⟨-1,2,UInt8.ofNat k,e.v,0,0,0⟩,zm3,?_⟩
   refine⟨_,fun w=>zi4 _ _ e _ w,?_⟩
   refine biE (fun h2=>?_) fun h2=>?_
   ·have h2:¬ e=⟨-1,2,UInt8.ofNat k,e.v,0,0,0⟩:=by simpa using h2
    rw [if_neg h2] at hgo
    exact no hgo.symm
   ·have h2:e=⟨-1,2,UInt8.ofNat k,e.v,0,0,0⟩:=by simpa using h2
    rw [if_pos h2] at hgo
    refine⟨((k+1:Nat):Int),(zad (by omega)).trans (by omega),?_⟩
    exact⟨(k+1,t,m),(cvE rfl rfl),⟨hkl,by show m≤k+1;omega,hgo,hbY2⟩,by show ev.length-(k+1)<ev.length-k;omega⟩
  ·have h:¬ (k:Int)<(locs:Int):=of_decide_eq_false h
   rw [if_neg (by omega:¬ k<locs)] at hgo
   refine⟨i64 e.th,ld (i:=0) rfl,?_⟩
   refine biE (fun h1=>?_) fun h1=>?_
   ·have h1:e.th<t:=of_decide_eq_true h1
    refine brT ?_
    rw [if_pos (.inl h1)] at hgo
    exact no hgo.symm
   have h1:¬ e.th<t:=of_decide_eq_false h1
   refine⟨i64 e.th,ld (i:=0) rfl,?_⟩
   refine biE (fun h2=>?_) fun h2=>?_
   ·have h2:4≤e.th:=of_decide_eq_true h2
    rw [if_pos (.inr h2)] at hgo
    exact no hgo.symm
   have h2:¬ 4≤e.th:=of_decide_eq_false h2
   rw [if_neg (by rintro (h | h);exact h1 h;exact h2 h)] at hgo
   refine⟨i64 e.th,ld (i:=0) rfl,?_⟩
   refine biE (fun h9=>?_) fun h9=>?_
   ·have h9:t<e.th:=of_decide_eq_true h9
    dsimp only at hgo
    rw [if_pos h9,if_pos h9] at hgo
    refine⟨i64 e.th,ld (i:=0) rfl,?_⟩
    refine⟨u8 e.p,ld (i:=6) rfl,?_⟩
    refine⟨(e.p.toNat:Int),zaE _,?_⟩
    refine biE (fun h3=>?_) fun h3=>?_
    ·have h3:¬ e.p.toNat=0:=by
      have h3:(!decide ((e.p.toNat:Int)=(0:Nat)))=true:=h3
      simpa using h3
     rw [if_neg h3] at hgo
     exact no hgo.symm
    have h3:e.p.toNat=0:=by
     have h3:(!decide ((e.p.toNat:Int)=(0:Nat)))=false:=h3
     simpa using h3
    rw [if_pos h3] at hgo
    refine⟨((0+1:Nat):Int),(zad (by omega)).trans (by omega),?_⟩
    refine⟨u8 e.k,ld (i:=1) rfl,?_⟩
    refine biE (fun h4=>?_) fun h4=>?_
    ·refine brE h4 ?_
     have h4:e.k=1:=zbw.1 (of_decide_eq_true h4)
     rw [if_pos (.inl h4)] at hgo
     refine⟨u8 e.l,ld (i:=2) rfl,?_⟩
     refine⟨(e.l.toNat:Int),zaE _,?_⟩
     refine biE (fun h5=>?_) fun h5=>?_
     ·have h5:(locs:Int)≤(e.l.toNat:Int):=of_decide_eq_true h5
      rw [if_neg (by omega)] at hgo
      exact no hgo.symm
     ·have h5:¬ (locs:Int)≤(e.l.toNat:Int):=of_decide_eq_false h5
      rw [if_pos (by omega)] at hgo
      refine⟨((k+1:Nat):Int),(zad (by omega)).trans (by omega),?_⟩
      exact⟨(k+1,e.th,0+1),(cvE rfl rfl),⟨hkl,by show 0+1≤k+1;omega,hgo,hbY2⟩,by show ev.length-(k+1)<ev.length-k;omega⟩
    have h4:¬ e.k=1:=fun e2=>(of_decide_eq_false h4) (by rw [e2];rfl)
    refine biE (fun h5=>?_) fun h5=>?_
    ·have h5:e.k=2:=zbw.1 (of_decide_eq_true h5)
     rw [if_pos (.inr h5)] at hgo
     refine⟨u8 e.l,ld (i:=2) rfl,?_⟩
     refine⟨(e.l.toNat:Int),zaE _,?_⟩
     refine biE (fun h5=>?_) fun h5=>?_
     ·have h5:(locs:Int)≤(e.l.toNat:Int):=of_decide_eq_true h5
      rw [if_neg (by omega)] at hgo
      exact no hgo.symm
     ·have h5:¬ (locs:Int)≤(e.l.toNat:Int):=of_decide_eq_false h5
      rw [if_pos (by omega)] at hgo
      refine⟨((k+1:Nat):Int),(zad (by omega)).trans (by omega),?_⟩
      exact⟨(k+1,e.th,0+1),(cvE rfl rfl),⟨hkl,by show 0+1≤k+1;omega,hgo,hbY2⟩,by show ev.length-(k+1)<ev.length-k;omega⟩
    have h5:¬ e.k=2:=fun e2=>(of_decide_eq_false h5) (by rw [e2];rfl)
    rw [if_neg (by rintro (h | h);exact h4 h;exact h5 h)] at hgo
    refine biE (fun h6=>?_) fun h6=>?_
    ·have h6:e.k=3:=zbw.1 (of_decide_eq_true h6)
     rw [if_pos h6] at hgo
     refine⟨u8 e.l,ld (i:=2) rfl,?_⟩
     refine biE (fun h7=>?_) fun h7=>?_
     ·have h7:¬ e.l=0:=by
       have h7:(!decide ((e.l.toNat:Int)=0))=true:=h7
       intro e2
       rw [e2] at h7
       cases h7
      refine brT ?_
      rw [if_neg fun h=>h7 h.1] at hgo
      exact no hgo.symm
     ·have h7:e.l=0:=by
       have h7:(!decide ((e.l.toNat:Int)=((0:UInt8).toNat:Int)))=false:=h7
       exact zbw.1 (by simpa using h7)
      refine⟨u8 e.v,ld (i:=3) rfl,?_⟩
      refine biE (fun h8=>?_) fun h8=>?_
      ·have h8:¬ e.v=0:=by
        have h8:(!decide ((e.v.toNat:Int)=0))=true:=h8
        intro e2
        rw [e2] at h8
        cases h8
       rw [if_neg fun h=>h8 h.2] at hgo
       exact no hgo.symm
      ·have h8:e.v=0:=by
        have h8:(!decide ((e.v.toNat:Int)=((0:UInt8).toNat:Int)))=false:=h8
        exact zbw.1 (by simpa using h8)
       rw [if_pos ⟨h7,h8⟩] at hgo
       refine⟨((k+1:Nat):Int),(zad (by omega)).trans (by omega),?_⟩
       exact⟨(k+1,e.th,0+1),(cvE rfl rfl),⟨hkl,by show 0+1≤k+1;omega,hgo,hbY2⟩,by show ev.length-(k+1)<ev.length-k;omega⟩
    ·have h6:¬ e.k=3:=fun e2=>(of_decide_eq_false h6) (by rw [e2];rfl)
     rw [if_neg h6] at hgo
     exact no hgo.symm
   ·have h9:¬ t<e.th:=of_decide_eq_false h9
    dsimp only at hgo
    rw [if_neg h9,if_neg h9] at hgo
    refine⟨u8 e.p,ld (i:=6) rfl,?_⟩
    refine⟨(e.p.toNat:Int),zaE _,?_⟩
    refine biE (fun h3=>?_) fun h3=>?_
    ·have h3:¬ e.p.toNat=m:=by
      have h3:(!decide ((e.p.toNat:Int)=(m:Nat)))=true:=h3
      intro e2
      rw [e2] at h3
      simp at h3
     rw [if_neg h3] at hgo
     exact no hgo.symm
    have h3:e.p.toNat=m:=by
     have h3:(!decide ((e.p.toNat:Int)=(m:Nat)))=false:=h3
     have h3:(e.p.toNat:Int)=(m:Nat):=by simpa using h3
     omega
    rw [if_pos h3] at hgo
    refine⟨((m+1:Nat):Int),(zad (by omega)).trans (by omega),?_⟩
    refine⟨u8 e.k,ld (i:=1) rfl,?_⟩
    refine biE (fun h4=>?_) fun h4=>?_
    ·refine brE h4 ?_
     have h4:e.k=1:=zbw.1 (of_decide_eq_true h4)
     rw [if_pos (.inl h4)] at hgo
     refine⟨u8 e.l,ld (i:=2) rfl,?_⟩
     refine⟨(e.l.toNat:Int),zaE _,?_⟩
     refine biE (fun h5=>?_) fun h5=>?_
     ·have h5:(locs:Int)≤(e.l.toNat:Int):=of_decide_eq_true h5
      rw [if_neg (by omega)] at hgo
      exact no hgo.symm
     ·have h5:¬ (locs:Int)≤(e.l.toNat:Int):=of_decide_eq_false h5
      rw [if_pos (by omega)] at hgo
      refine⟨((k+1:Nat):Int),(zad (by omega)).trans (by omega),?_⟩
      exact⟨(k+1,t,m+1),(cvE rfl rfl),⟨hkl,by show m+1≤k+1;omega,hgo,hbY2⟩,by show ev.length-(k+1)<ev.length-k;omega⟩
    have h4:¬ e.k=1:=fun e2=>(of_decide_eq_false h4) (by rw [e2];rfl)
    refine biE (fun h5=>?_) fun h5=>?_
    ·have h5:e.k=2:=zbw.1 (of_decide_eq_true h5)
     rw [if_pos (.inr h5)] at hgo
     refine⟨u8 e.l,ld (i:=2) rfl,?_⟩
     refine⟨(e.l.toNat:Int),zaE _,?_⟩
     refine biE (fun h5=>?_) fun h5=>?_
     ·have h5:(locs:Int)≤(e.l.toNat:Int):=of_decide_eq_true h5
      rw [if_neg (by omega)] at hgo
      exact no hgo.symm
     ·have h5:¬ (locs:Int)≤(e.l.toNat:Int):=of_decide_eq_false h5
      rw [if_pos (by omega)] at hgo
      refine⟨((k+1:Nat):Int),(zad (by omega)).trans (by omega),?_⟩
      exact⟨(k+1,t,m+1),(cvE rfl rfl),⟨hkl,by show m+1≤k+1;omega,hgo,hbY2⟩,by show ev.length-(k+1)<ev.length-k;omega⟩
    have h5:¬ e.k=2:=fun e2=>(of_decide_eq_false h5) (by rw [e2];rfl)
    rw [if_neg (by rintro (h | h);exact h4 h;exact h5 h)] at hgo
    refine biE (fun h6=>?_) fun h6=>?_
    ·have h6:e.k=3:=zbw.1 (of_decide_eq_true h6)
     rw [if_pos h6] at hgo
     refine⟨u8 e.l,ld (i:=2) rfl,?_⟩
     refine biE (fun h7=>?_) fun h7=>?_
     ·have h7:¬ e.l=0:=by
       have h7:(!decide ((e.l.toNat:Int)=0))=true:=h7
       intro e2
       rw [e2] at h7
       cases h7
      refine brT ?_
      rw [if_neg fun h=>h7 h.1] at hgo
      exact no hgo.symm
     ·have h7:e.l=0:=by
       have h7:(!decide ((e.l.toNat:Int)=((0:UInt8).toNat:Int)))=false:=h7
       exact zbw.1 (by simpa using h7)
      refine⟨u8 e.v,ld (i:=3) rfl,?_⟩
      refine biE (fun h8=>?_) fun h8=>?_
      ·have h8:¬ e.v=0:=by
        have h8:(!decide ((e.v.toNat:Int)=0))=true:=h8
        intro e2
        rw [e2] at h8
        cases h8
       rw [if_neg fun h=>h8 h.2] at hgo
       exact no hgo.symm
      ·have h8:e.v=0:=by
        have h8:(!decide ((e.v.toNat:Int)=((0:UInt8).toNat:Int)))=false:=h8
        exact zbw.1 (by simpa using h8)
       rw [if_pos ⟨h7,h8⟩] at hgo
       refine⟨((k+1:Nat):Int),(zad (by omega)).trans (by omega),?_⟩
       exact⟨(k+1,t,m+1),(cvE rfl rfl),⟨hkl,by show m+1≤k+1;omega,hgo,hbY2⟩,by show ev.length-(k+1)<ev.length-k;omega⟩
    ·have h6:¬ e.k=3:=fun e2=>(of_decide_eq_false h6) (by rw [e2];rfl)
     rw [if_neg h6] at hgo
     exact no hgo.symm
 ·have hc:¬ (k:Int)<(ev.length:Int):=of_decide_eq_false hc
  obtain rfl:k=ev.length:=by omega
  rw [List.drop_length] at hgo
  exact⟨rb hgo,hbX⟩
end
end Go.Proofs.YtmbghmhjjodgmaaGreatDoor
namespace Go.Vc
open Go.RowKit
def zo0 {α:Type} (P:Program) (g:Nat) (lb:List Value) (xs:List α) (W0:World) (Rd:Nat→Prop) (St:List α→List Value→World→Prop) (Gv:List Value→Nat→Prop):Prop :=
 ∀ (l:Nat) (F0:Nat→Prop) (J:List α→(Nat→Prop)→World→Prop) (W:World),W0.heap.size≤W.heap.size→(∀ k,Rd k→W.heap[k]?=W0.heap[k]?)→(∀ k,Rd k→¬ F0 k) →
  JG W.heap.size (fun _=>False) J →
  (∀ pre x vs F W1,J pre F W1→St (pre++[x]) vs W1→(∀ k,Gv vs k→W.heap.size≤k)→(pre++[x]) <+: xs→YieldR P l vs.toArray W1 fun v W2 =>
   v = .bool true∧∃ F',J (pre++[x]) F' W2∧KeepsG (fun k=>F k∨Gv vs k) F' W1 W2) →
  J [] F0 W →
  Calls P g (.func (.yield l) #[] #[]::lb).toArray W fun e W'=>(∃ v,e = .returned v)∧∃ F',J xs F' W'
theorem zpj {α:Type} {S:Sig} (hS:SigOk S) (hr:S.r=none) {f:Operand} {ps:Array Tmp} {assign body:Code} {E:Env} {w:World} {Q:Exit→Env→World→Prop}
  {gf:Nat} {lb:Array Value} (hg:opd E f=some (.func (.func gf) #[] lb)) (hok:zb3 S gf=true)
  {xs:List α} {W0:World} {Rd:Nat→Prop} {St:List α→List Value→World→Prop} {Gv:List Value→Nat→Prop} (hI:zo0 S.P gf lb.toList xs W0 Rd St Gv) (hGv:∀ pre vs W k,St pre vs W→Gv vs k→∃ cs t fr,W.heap[k]?=some (.cells cs t fr)) (hW0:W0.heap.size≤w.heap.size) (hRd:∀ k,Rd k→k<W0.heap.size∧w.heap[k]?=W0.heap[k]?)
  (hps:∀ pre vs W,St pre vs W→vs.length=ps.size) (hpn:∀ p∈ps.toList,p<S.n)
  (F0:Nat→Prop) (J:List α→(Nat→Prop)→World→Prop) (hRF:∀ k,Rd k→¬ F0 k)
  (hJ:JG w.heap.size (fun _=>False) J) (h0:J [] F0 w)
  (hround:∀ (l:Nat) (pre:List α) (x:α) (vs:List Value) (F:Nat→Prop) (W:World),w.heap.size≤l→(pre++[x]) <+: xs→J pre F W→St (pre++[x]) vs W→(∀ k,Gv vs k→w.heap.size≤k)→¬ F l→(∃ lo,W.heap[l]?=some (.loop lo)) →
   wpE (sr S l) assign ⟨setL ps.toList vs E.vs,[]⟩ W fun ex E1 W1=>ex = .normal∧∃ F1,KeepsG (fun k=>F k∨Gv vs k) F1 W W1∧J pre F1 W1 ∧
    ∀ o W2,W2=W1.putObj l o→J pre F1 W2→wpE (sr S l) body E1 W2 (zp4 F1 J (fun _ _ _ _=>False) (pre++[x]) W2))
  (hdone:∀ D F W,w.heap.size≤D→¬ F D→J xs F W→W.heap[D]?=some (.deferred (some []))→Q .normal ⟨E.vs,{ target := .collected D,args := #[] }::E.ds⟩ W) :
  zjA S f ps assign body E w Q:=by
 intro a ha
 have hcall:∀ args w,(callFunc gf args).run S.P w = .ok (.enter gf args) w:=by
  simp only [zb3,Bool.and_eq_true,Nat.ble_eq,Nat.blt_eq] at hok
  exact fun args w=>hS.call gf hok.1.1 hok.1.2 hok.2 args w
 refine wpIn_rangeFunc ?_
 intro fn hfn
 have hro:(FR S.r).round=none:=hr
 rw [hro]
 obtain⟨rec,hrec⟩:∃ rec:LoopState→Option Code→Loop,rec=fun st pe=>{ state:=st,pending:=pe,fn,tmps:=a.tmps,params:=ps,assign,body,defers:=w.heap.size }:=⟨_,rfl⟩
 obtain⟨W1,hW1⟩:∃ W1,(w.alloc (.deferred (some []))).alloc (.loop (rec .ready none))=W1:=⟨_,rfl⟩
 have hK0:=hnew w (.deferred (some []))
 have hK1:W1.heap[w.heap.size]?=some (.deferred (some [])):=by rw [← hW1];exact hold _ hK0
 have hL1:W1.heap[w.heap.size+1]?=some (.loop (rec .ready none)):=by
  rw [← hW1];have:=hnew (w.alloc (.deferred (some []))) (.loop (rec .ready none));rwa [World.size_alloc] at this
 have hs1:W1.heap.size=w.heap.size+2:=by rw [← hW1];simp
 have hst1:Below w.heap.size w W1:=by
  rw [← hW1];exact ((Below.refl _ w).alloc (Nat.le_refl _) _).alloc (by simp) _
 have hJ1:=hJ.step _ _ _ _ h0 (.below hst1)
 have hFl:∀ k,F0 k→k<w.heap.size:=fun k hk=>(hJ.lt _ _ _ k h0 hk).1
 refine⟨w.heap.size+1,[{ target := .collected w.heap.size,args := #[] }],W1,{ target := .fn (.func gf) lb,args := #[.func (.yield (w.heap.size+1)) #[] #[]] },W1,gf,
  #[.func (.yield (w.heap.size+1)) #[] #[]]++lb,W1,?_,?_,fun _ _=>trivial,?_,fun h=>by simp [FR] at h,?_⟩
 ·rw [← hW1,hrec];exact run_enterLoop_outer _ _ _ _ _
 ·have hg':=ha.eval hg
  simp only [resolve,hg']
  simp [go_sem]
 ·simp [invoke,go_sem,hcall]
 ·have hargs : #[Value.func (.yield (w.heap.size+1)) #[] #[]]++lb=(Value.func (.yield (w.heap.size+1)) #[] #[]::lb.toList).toArray:=by rw [← Array.toList_inj];simp
  rw [hargs]
  have book:∀ {σ:Type} {K:σ→(Nat→Prop)→World→Prop} (lo:Loop),JG w.heap.size (fun _=>False) K→JG W1.heap.size (fun _=>False) (fun s F W=>K s F W∧W.heap[w.heap.size+1]?=some (.loop lo)∧W.heap[w.heap.size]?=some (.deferred (some []))∧¬ F (w.heap.size+1)∧¬ F w.heap.size):=by
   intro σ K lo hK
   refine⟨fun s F A B ⟨hk,hl,hd,hf1,hf2⟩ hs=>?_,fun s F A k ⟨hk,_⟩ hf=>hK.lt s F A k hk hf⟩
   exact⟨hK.step s F A B hk (hs.mono (by omega)),(hs.same _ (hlt hl) (.inl ⟨by omega,fun h=>h⟩)).trans hl,(hs.same _ (hlt hd) (.inl ⟨by omega,fun h=>h⟩)).trans hd,hf1,hf2⟩
  have hcalls:=hI (w.heap.size+1) F0 (fun pre F W=>J pre F W∧W.heap[w.heap.size+1]?=some (.loop (rec .ready none))∧W.heap[w.heap.size]?=some (.deferred (some []))∧¬ F (w.heap.size+1)∧¬ F w.heap.size)
   W1 (by omega) (fun k hk=>by
    obtain⟨h1,h2⟩:=hRd k hk
    rw [← h2]
    exact hst1.block k (by omega)) hRF (book _ hJ) ?_ ⟨hJ1,hL1,hK1,fun h=>by have:=hFl _ h;omega,fun h=>by have:=hFl _ h;omega⟩
  ·refine zdz (hcalls.mono ?_)
   rintro e W2 ⟨⟨v,rfl⟩,F,hj,hl,hk,hf1,hf2⟩
   have hj2:=hJ.step _ _ _ _ hj (StepG.put (Ow:=fun _=>False) (o := .loop (rec .exhausted none)) (n0:=w.heap.size) (l:=w.heap.size+1) (by omega) hf1)
   refine⟨none,_,by have:=run_endLoop (P:=S.P) hl (by rw [hrec];simp);rw [hrec] at this;exact this,?_⟩
   rw [hrec] at hj2
   exact⟨⟨E.vs,{ target := .collected w.heap.size,args := #[] }::E.ds⟩,⟨ha.size,by simp [ha.defers],ha.val⟩,hdone w.heap.size F _ (Nat.le_refl _) hf2 hj2 ((zai (by omega)).trans hk)⟩
  ·rintro pre x vs F W ⟨hj,hl,hk,hf1,hf2⟩ hst0 hgv0 hpre
   have hg1:¬ (F (w.heap.size+1)∨Gv vs (w.heap.size+1)):=fun h=>h.elim hf1 fun h=>by
    obtain⟨_,_,_,h2⟩:=hGv _ _ _ _ hst0 h
    rw [hl] at h2;cases h2
   have hg2:¬ (F w.heap.size∨Gv vs w.heap.size):=fun h=>h.elim hf2 fun h=>by
    obtain⟨_,_,_,h2⟩:=hGv _ _ _ _ hst0 h
    rw [hk] at h2;cases h2
   have hy:=run_yield (P:=S.P) (args:=vs.toArray) hl (by rw [hrec];simpa using hps _ _ _ hst0)
   rw [hrec] at hy
   refine⟨fn,_,assign,body,hy,zcT (r:=none) (n:=NN) (roundIn_of_wpIn (F:=FR none) trivial ?_)⟩
   have hag:Agrees (sr S (w.heap.size+1)) { tmps:=(ps.zip vs.toArray).foldl (fun t (p,v)=>t.setIfInBounds p v) a.tmps,defers:=[] } ⟨setL ps.toList vs E.vs,[]⟩:=by
    have h1:Agrees (sr S (w.heap.size+1)) { a with defers:=[] } ⟨E.vs,[]⟩:=⟨ha.size,rfl,ha.val⟩
    have h2:=zcO ps.toList vs _ _ h1 hpn
    have e:(ps.zip vs.toArray).foldl (fun t (p,v)=>t.setIfInBounds p v) a.tmps=(ps.toList.zip vs).foldl (fun t (p,v)=>t.setIfInBounds p v) a.tmps:=by
     rw [← Array.foldl_toList];simp
    rw [e];exact h2
   have hw:=zaX (zjG hS _) assign _ _ W _ hag (hround (w.heap.size+1) pre x vs F W (by omega) hpre hj hst0 (fun k hk=>by have:=hgv0 k hk;omega) hf1 ⟨_,hl⟩)
   refine wpIn_mono hw ?_
   rintro ex a1 Wa ⟨E1,hag1,rfl,F1,hk1,hj1,hbody⟩
   have hla:=(hk1.same _ (hlt hl) hg1).trans hl
   have hka:=(hk1.same _ (hlt hk) hg2).trans hk
   have hfa1:¬ F1 (w.heap.size+1):=fun h=>by rcases hk1.fp _ h with h | h;exact hg1 h;have:=hlt hl;omega
   have hfa2:¬ F1 w.heap.size:=fun h=>by rcases hk1.fp _ h with h | h;exact hg2 h;have:=hlt hk;omega
   refine⟨_,run_beginRound hla (by rw [hrec]),?_⟩
   have hst:StepG w.heap.size (fun _=>False) F1 Wa (Wa.putObj (w.heap.size+1) (.loop { rec .ready none with state := .busy })) := .put (by omega) hfa1 _
   have hj2:=hJ.step _ _ _ _ hj1 hst
   have hw2:=zaX (zjG hS _) body _ _ _ _ hag1 (hbody _ _ rfl hj2)
   refine wpIn_mono hw2 ?_
   have hl2:(Wa.putObj (w.heap.size+1) (.loop { rec .ready none with state := .busy })).heap[w.heap.size+1]?=some (.loop { rec .ready none with state := .busy }):=zdv hla
   have hk2:(Wa.putObj (w.heap.size+1) (.loop { rec .ready none with state := .busy })).heap[w.heap.size]?=some (.deferred (some [])):=(zai (by omega)).trans hka
   rintro e a3 W3 ⟨E3,_,hq⟩
   cases e with
   | normal =>
    obtain⟨F3,hj3,hk3⟩:=hq
    have hl3:=(hk3.same _ (hlt hl2) hfa1).trans hl2
    have hd3:=(hk3.same _ (hlt hk2) hfa2).trans hk2
    have hf31:¬ F3 (w.heap.size+1):=fun h=>by rcases hk3.fp _ h with h | h;exact hfa1 h;have:=hlt hl2;omega
    have hf32:¬ F3 w.heap.size:=fun h=>by rcases hk3.fp _ h with h | h;exact hfa2 h;have:=hlt hk2;omega
    have hr3:=run_endRound (P:=S.P) none hl3
    have hl4:=zdv (o' := .loop (rec .ready none)) hl3
    have hk4:(W3.putObj (w.heap.size+1) (.loop (rec .ready none))).heap[w.heap.size]?=some (.deferred (some [])):=(zai (by omega)).trans hd3
    have hs3:StepG w.heap.size (fun _=>False) F3 W3 (W3.putObj (w.heap.size+1) (.loop (rec .ready none))) := .put (by omega) hf31 _
    have hj4:=hJ.step _ _ _ _ hj3 hs3
    rw [hrec] at hr3 hl4 hk4 hs3 hj4
    refine⟨_,_,hr3,rfl,F3,⟨hj4,by rw [hrec];exact hl4,hk4,hf31,hf32⟩,?_⟩
    refine⟨hs3.os.trans (hk3.os.trans hk1.os),hs3.tape.trans (hk3.tape.trans hk1.tape),hs3.output.trans (hk3.output.trans hk1.output),?_,fun k hk5 hf5=>?_,fun k hk5=>?_⟩
    ·have h1:=hk1.size;have h2:=hst.size;have h3:=hk3.size;have h4:=hs3.size
     exact Nat.le_trans (Nat.le_trans (Nat.le_trans h1 h2) h3) h4
    ·by_cases hkl:k=w.heap.size+1
     ·subst hkl;rw [hl,hrec];exact hl4
     ·have h1:¬ F1 k:=fun h=>by rcases hk1.fp _ h with h | h;exact hf5 h;omega
      have h2:=hk1.size;have h3:=hst.size
      rw [zai hkl,hk3.same k (by omega) h1,zai hkl]
      exact hk1.same k hk5 hf5
    ·rcases hk3.fp _ hk5 with h2 | h2
     ·exact hk1.fp _ h2
     ·have h3:=hk1.size;have h4:=hst.size;exact .inr (by omega)
   | ret=>exact (show False from (by obtain⟨_,h,_⟩:=hq;exact h)).elim
   | exit id=>exact (show False from (by obtain⟨_,h,_⟩:=hq;exact h)).elim
   | goto t=>exact hq.elim
   | panic ch=>exact hq.elim
   | outgrown=>exact hq.elim
end Go.Vc
namespace Go.Proofs.YtmbghmhjjodgmaaGreatDoor
open Go.Vc Go.RowKit Go.Sei
abbrev zfH:=List NatL×Option Addr×Nat
def rnkE:Enc zfH where
 sz:=1
 enc x:=[.slice x.2.1 x.1.length x.2.2]
 len x:=rfl
 one x v hv:=by
  simp at hv
  subst hv
  rfl
 pos:=by decide
structure MixM (Rd:Nat→Prop) (w:World) (b o:Nat) (m:MixD) (q:Option Addr) (c:Nat) (p1 p2 p3:Option Addr) (c1 c2 c3:Nat) (xs ys:List NatL):Prop where
 cells:zau w ⟨b,o,none⟩ (exC m.base q c++[.slice p1 m.rs.length c1,.slice p2 xs.length c2,.slice p3 ys.length c3])
 ev:SlR evE w q m.base.ev
 qn:q=none→c=0
 r1:SlR natE w p1 (m.rs.map (·.1))
 e2:xs.map (·.1)=m.rs.map (·.2)
 r2:SlR zbs w p2 xs
 n2:∀ y∈xs,SlR natE w y.2.1 y.1
 e3:ys.map (·.1)=m.wr
 r3:SlR zbs w p3 ys
 n3:∀ y∈ys,SlR natE w y.2.1 y.1
 db:Rd b
 dq:∀ a,q=some a→Rd a.block
 d1:∀ a,p1=some a→Rd a.block
 d2:∀ a,p2=some a→Rd a.block
 d3:∀ a,p3=some a→Rd a.block
 m2:∀ y∈xs,∀ a,y.2.1=some a→Rd a.block
 m3:∀ y∈ys,∀ a,y.2.1=some a→Rd a.block
theorem MixM.same {Rd:Nat→Prop} {w X:World} {b o:Nat} {m:MixD} {q:Option Addr} {c:Nat} {p1 p2 p3:Option Addr} {c1 c2 c3:Nat} {xs ys:List NatL} (h:MixM Rd w b o m q c p1 p2 p3 c1 c2 c3 xs ys) (hs:∀ k,Rd k→X.heap[k]?=w.heap[k]?):MixM Rd X b o m q c p1 p2 p3 c1 c2 c3 xs ys :=
 ⟨za8 (hs _ h.db) h.cells,za2 h.ev fun a ha=>hs _ (h.dq a ha),h.qn,za2 h.r1 fun a ha=>hs _ (h.d1 a ha),h.e2,za2 h.r2 fun a ha=>hs _ (h.d2 a ha),fun y hy=>za2 (h.n2 y hy) fun a ha=>hs _ (h.m2 y hy a ha),
  h.e3,za2 h.r3 fun a ha=>hs _ (h.d3 a ha),fun y hy=>za2 (h.n3 y hy) fun a ha=>hs _ (h.m3 y hy a ha),h.db,h.dq,h.d1,h.d2,h.d3,h.m2,h.m3⟩
theorem zfh {w:World} {b o:Nat} {x:ExD} {q:Option Addr} {c:Nat} {S:List Value} (h:zau w ⟨b,o,none⟩ (exC x q c++S)) {i:Nat} {v:Value} (hi:S[i]?=some v):w.cell? ⟨b,o+(333+i),none⟩=some v:=zac h (zgu hi)
theorem appR {B c:Nat} {V1:World} {p:Option Addr} {l:List zfH} {y:zfH} {a:Addr} (ho:OwnS rnkE 117 B V1 p c l) (ha:zau V1 a ([y].flatMap rnkE.enc)) (hB:B≤V1.heap.size) (hl:l.length≤100000) {K:Value→World→Prop}
  (h:∀ p' c' w',OwnS rnkE 117 B w' p' c' (l++[y])→V1.grownBy w' (p.map Addr.block)→(∀ a,p'=some a→p=some a∨a.block=V1.heap.size)→K (.slice p' (l++[y]).length c') w') :
  SatR ((Builtin.append_ #[172,172] 172 #[.slice p l.length c,.slice (some a) 1 1]).run Tryz.prog V1) K :=
 zbt (E:=rnkE) (T:=117) (B:=B) (l:=l) (news:=[y]) (cap:=c) (m:=1) Tryz.underlying172 (ttOk.get 117 _ rfl) rfl rfl rfl ho rfl ha hB (by omega) (by show (l.length+1)*24≤_;omega) fun p' c' w' a1 a2 _ a4=>h p' c' w' a1 (by rw [zcq] at a2;exact a2) a4
structure CanS (B:Nat) (Z:World) (yl L R:Nat) (ss:List Nat) (ps:Option Addr) (cs:Nat) (zs:List zfH) (pr:Option Addr) (cr:Nat):Prop where
 fL:Z.heap[L]?=some (.cells #[.func (.yield yl) #[] #[]] 36 (0,0))
 fR:Z.heap[R]?=some (.cells #[.slice pr zs.length cr] 172 (0,0))
 own:OwnS natE 3 B Z ps cs ss
 rk:OwnS rnkE 117 B Z pr cr zs
 n1:∀ z∈zs,OwnS zbs 108 B Z z.2.1 z.2.2 z.1
 n2:∀ z∈zs,∀ y∈z.1,OwnS natE 3 B Z y.2.1 y.2.2 y.1
 dis:∀ z∈zs,∀ y∈z.1,∀ a b,ps=some a→y.2.1=some b→a.block≠b.block
theorem CanS.below {B:Nat} {Z Y:World} {yl L R:Nat} {ss:List Nat} {ps:Option Addr} {cs:Nat} {zs:List zfH} {pr:Option Addr} {cr:Nat} (h:CanS B Z yl L R ss ps cs zs pr cr) (hb:Below Z.heap.size Z Y):CanS B Y yl L R ss ps cs zs pr cr :=
 ⟨zab hb h.fL,zab hb h.fR,h.own.below hb,h.rk.below hb,fun z hz=>(h.n1 z hz).below hb,fun z hz y hy=>(h.n2 z hz y hy).below hb,h.dis⟩
theorem CanS.size {B:Nat} {Z Y:World} {yl L R:Nat} {ss:List Nat} {ps:Option Addr} {cs:Nat} {zs:List zfH} {pr:Option Addr} {cr:Nat} (h:CanS B Z yl L R ss ps cs zs pr cr) {ps':Option Addr} {cs' n:Nat} (ho:OwnS natE 3 B Y ps' cs' (ss++[n])) (g:Z.grownBy Y (ps.map Addr.block)) (hat:∀ a,ps'=some a→ps=some a∨a.block=Z.heap.size):CanS B Y yl L R (ss++[n]) ps' cs' zs pr cr :=
 ⟨zaL h.fL h.own (by decide) g,zaL h.fR h.own (by decide) g,ho,zbJ h.rk h.own (by decide) g,fun z hz=>zbJ (h.n1 z hz) h.own (by decide) g,fun z hz y hy=>zd1 (h.n2 z hz y hy) g fun a b ha hb=>h.dis z hz y hy a b ha hb,fun z hz y hy a b ha hb=>by
  rcases hat a ha with h1 | h1
  ·exact h.dis z hz y hy a b h1 hb
  ·have:=(zaq (h.n2 z hz y hy) hb).2.1
   omega⟩
theorem zkS {ds:List Nat}:∀ {rs:List (Nat×List Nat)} {ds:List Nat} {f:Nat→Nat},WrdR f→(∀ r∈rs,r.1<48)→WrdR (rfF rs ds f)
 | [],_,_,h,_=>h
 | (r,s)::rs,ds,f,h,hr=>by
  have h1:=hr (r,s) List.mem_cons_self
  refine zkS (rs:=rs) (ds:=ds.tail) (f:=upd f (s.getD (ds.headD 0) 0) (f (s.getD (ds.headD 0) 0)|||2^r)) ?_ fun x hx=>hr x (List.mem_cons_of_mem _ hx)
  intro j hj
  by_cases e:j=s.getD (ds.headD 0) 0
  ·rw [e,za1]
   exact Nat.or_lt_two_pow (by rw [← e];exact h j hj) (zaN (by have:r<48:=h1;omega))
  ·rw [zck _ _ e];exact h j hj
theorem zlR {ev:List Ev}:∀ {Rs:List (List (List Nat))} {l:Nat} {ds:List Nat} {p:RelD×(Nat→UInt8)},WrdR p.1.to→(∀ R∈Rs,∀ k∈R,∀ a∈k,a<48)→WrdR (coG ev l Rs ds p).1.to
 | [],_,_,_,h,_=>h
 | R::Rs,l,ds,p,h,hr=>by
  refine zlR (Rs:=Rs) (l:=l+1) (ds:=ds.tail) (p:=(zcD (R.getD (ds.headD 0) []) p.1,_)) ?_ fun x hx=>hr x (List.mem_cons_of_mem _ hx)
  refine zhx h fun a ha=>?_
  rw [List.getD_eq_getElem?_getD] at ha
  cases hg:R[ds.headD 0]? with
  | none=>rw [hg] at ha;cases ha
  | some k =>
   rw [hg] at ha
   exact hr R List.mem_cons_self k (List.mem_of_getElem? hg) a ha
section
variable (x:ExD) (q:Option Addr) (c:Nat)
theorem zlx:∃ A Z,A.length=50∧∀ r,exC { x with rf:=r } q c=A++(relC r++Z):=by
 obtain⟨A,Z,h1,h2⟩:=zpG x q c []
 exact⟨A,Z,h1,fun r=>by rw [← h2,List.append_nil]⟩
theorem zjg:∃ A Z,A.length=99∧∀ r,exC { x with co:=r } q c=A++(relC r++Z):=by
 obtain⟨A,Z,h1,h2⟩:=zpJ x q c []
 exact⟨A,Z,h1,fun r=>by rw [← h2,List.append_nil]⟩
theorem zoq {l:Nat} (hl:l<6) (v:UInt8):(exC x q c).set (327+l) (u8 v)=exC { x with mem:=upd x.mem l v } q c:=by
 obtain⟨A,Z,h1,h2⟩:=znr x q c []
 have e1:=h2 x.mem
 have e2:=h2 (upd x.mem l v)
 rw [List.append_nil] at e1 e2
 rw [e2]
 show (exC { x with mem:=x.mem } q c).set _ _=_
 rw [e1,zby h1]
 have e3:=zeZ (B:=Z) (f:=fun i=>u8 (x.mem i)) (fun i=>u8 (upd x.mem l v i)) hl (fun j hj=>by rw [zck _ _ hj])
 rw [← e3,za1]
theorem zpL (l:List Ev) (q':Option Addr) (c':Nat):(exC x q c).set 0 (.slice q' l.length c')=exC { x with ev:=l } q' c':=rfl
end
abbrev exE3:=ExD×Option Addr×Nat
def exE:Enc exE3:=⟨fun x=>exC x.1 x.2.1 x.2.2,333,fun _=>zav ..,by decide,fun a u hu=>List.all_eq_true.1 (zdj ..) u hu⟩
abbrev ExH (X:World) (b:Nat) (x:ExD) (q:Option Addr) (c:Nat):Prop:=X.heap[b]?=some (.cells (exC x q c).toArray 34 (0,0))
def StX (B:Nat) (pre:List ExD) (vs:List Value) (W:World):Prop:=∃ x q c,pre.getLast?=some x∧vs=[.agg (exC x q c).toArray]∧OwnS evE 54 B W q c x.ev
def GvX (vs:List Value) (k:Nat):Prop:=∃ (x:ExD) (a:Addr) (c:Nat),vs=[.agg (exC x (some a) c).toArray]∧k=a.block
theorem zjN {xs:List NatL} {rs:List (Nat×List Nat)} (h:xs.map (·.1)=rs.map (·.2)):xs.map (·.1.length)=rs.map fun r=>r.2.length:=by
 have:=congrArg (List.map List.length) h
 rw [List.map_map,List.map_map] at this
 exact this
theorem zh1 {zs:List zfH} {ws:List (List Nat)} (h:zs.map (fun z=>z.1.map (·.1))=ws.map zcB):zs.map (·.1.length)=ws.map fun w=>(zcB w).length:=by
 have:=congrArg (List.map List.length) h
 rw [List.map_map,List.map_map] at this
 rw [← show zs.map (List.length ∘ fun z:zfH=>z.1.map (·.1))=zs.map (·.1.length) from List.map_congr_left fun z _=>List.length_map _]
 exact this
section
variable {Rd:Nat→Prop} {W0:World} {bx b o:Nat} {m:MixD} {q:Option Addr} {c:Nat} {p1 p2 p3:Option Addr} {c1 c2 c3:Nat} {xs ys:List NatL}
theorem zoM (hM:MixM Rd W0 b o m q c p1 p2 p3 c1 c2 c3 xs ys) (fx:W0.heap[bx]?=some (.cells #[.pointer (some ⟨b,o,none⟩)] 171 (0,0))) (hbx:Rd bx) (hRd:∀ k,Rd k→k<W0.heap.size) (hT:Tz64M W0) (hRt:Rd 0) (hB:MixB m) (hev:m.base.ev.length≤48) :
  zo0 Tryz.prog 117 [At0 bx] (zf8 m) W0 Rd (StX W0.heap.size) GvX:=by
 intro yl F0 J W hsz hrd hrf hJ hy h0
 refine zal (S:=sg 141) (sgOk _) (args:=[.func (.yield yl) #[] #[],At0 bx]) (.c .p (.s .p (.c .p (.c .p (.c .p (.s .p .p)))))) Tryz.func117 rfl rfl (Nat.le_of_ble_eq_true rfl) rfl ?_
 have hMW:=hM.same hrd
 have fxW:=(hrd bx hbx).trans fx
 have hTW:Tz64M W:=zbF hT (hrd _ hRt)
 have hRW:∀ k,Rd k→k<W.heap.size:=fun k hk=>by have:=hRd k hk;omega
 obtain⟨L,hL⟩:=nm (W.heap.size)
 have hxl:xs.length=m.rs.length:=by have:=congrArg List.length hM.e2;simpa using this
 have hyl:ys.length=m.wr.length:=by have:=congrArg List.length hM.e3;simpa using this
 have hrl48:=hB.rl
 have hwl6:=hB.wl
 have hx1:∀ y∈xs,y.1.length≤1000:=fun y hy=>by
  have:y.1∈m.rs.map (·.2):=by rw [← hM.e2];exact List.mem_map.2 ⟨y,hy,rfl⟩
  obtain⟨r,hr,he⟩:=List.mem_map.1 this
  rw [← he];exact (hB.rs r hr).2.1
 refine⟨Unit,fun _=>⟨[(1,At0 bx),(2,At0 L)],[]⟩,fun _ X=>X.heap[L]?=some (.cells #[.func (.yield yl) #[] #[]] 36 (0,0))∧X.heap.size=L+1∧Below W.heap.size W X,?_,?_⟩
 ·exact⟨(),⟨.cons rfl (.cons (by rw [hL];rfl) .nil),rfl⟩,by rw [hL];exact hnew W _,by rw [hL];exact World.size_alloc _ _,(Below.refl _ W).alloc (Nat.le_refl _) _⟩
 rintro _ X ⟨fL,sX,hbX⟩
 refine⟨Option Addr×Nat,fun s=>⟨[(1,At0 bx),(2,At0 L),(3,.slice s.1 (xs.map (·.1.length)).length s.2)],[]⟩,fun s Z=>OwnS natE 3 W.heap.size Z s.1 s.2 (xs.map (·.1.length))∧Z.heap[L]?=some (.cells #[.func (.yield yl) #[] #[]] 36 (0,0))∧Below W.heap.size W Z,?_,?_⟩
 ·refine⟨_,zac (zaa (zab hbX fxW)) (i:=0) rfl,?_⟩
  refine⟨_,zfh (hMW.same fun k hk=>hbX.block k (hRW k hk)).cells (i:=1) rfl,?_⟩
  refine⟨Nat×Option Addr×Nat,fun s=>⟨[(1,At0 bx),(2,At0 L),(3,.slice s.2.1 ((xs.take s.1).map (·.1.length)).length s.2.2),(20,.slice p2 xs.length c2),(21,i64 xs.length),(22,i64 (s.1:Nat))],[]⟩,
   fun s Z=>s.1≤xs.length∧OwnS natE 3 W.heap.size Z s.2.1 s.2.2 ((xs.take s.1).map (·.1.length))∧Z.heap[L]?=some (.cells #[.func (.yield yl) #[] #[]] 36 (0,0))∧Below W.heap.size W Z,fun s=>xs.length-s.1,(0,none,0),
   (cvE rfl rfl),⟨Nat.zero_le _,OwnS.nil,fL,hbX⟩,?_⟩
  rintro⟨k,ps,cs⟩ Z ⟨hk,ho,fL,hbZ⟩
  dsimp only at hk ho ⊢
  refine biE (fun hc=>?_) fun hc=>?_
  ·have hc:(k:Int)<(xs.length:Int):=of_decide_eq_true hc
   have hkl:k<xs.length:=by omega
   have hZM:=hMW.same fun k hk=>hbZ.block k (hRW k hk)
   obtain⟨x,hx⟩:∃ x,xs[k]=x:=⟨_,rfl⟩
   obtain⟨bp,op,hpe,hlp,hat⟩:=hZM.r2.at hkl
   subst hpe
   refine⟨k,rfl,hkl,?_⟩
   refine⟨slV x,by rw [← hx];exact zac (hat k hkl) (i:=0) rfl,?_⟩
   refine⟨⟨by decide,by decide,rfl⟩,natE.enc x.1.length,rfl,?_⟩
   have hb1:Below Z.heap.size Z (Z.alloc (.cells (natE.enc x.1.length).toArray 3)):=(Below.refl _ _).alloc (Nat.le_refl _) _
   have hZs:=hbZ.size
   have htl:((xs.take k).map (·.1.length)).length=k:=by rw [List.length_map,List.length_take];omega
   have htk:(xs.take (k+1)).map (·.1.length)=(xs.take k).map (·.1.length)++[x.1.length]:=by
    rw [List.take_succ_eq_append_getElem hkl,List.map_append,hx];rfl
   unfold opsE zcN
   show SatR _ _
   refine appI (ho.below hb1) (zbd natE x.1.length) (by have:=hb1.size;omega) (by have:=hB.rl;omega) fun p' c' U oU gU hat1=>?_
   rw [zcq] at gU
   rw [← htk] at oU ⊢
   have fU:=zaL (zab hb1 fL) (ho.below hb1) (by decide) gU
   refine⟨((k+1:Nat):Int),(zad (by omega)).trans (by omega),?_⟩
   exact⟨(k+1,p',c'),(cvE rfl rfl),⟨hkl,oU,fU,hbZ.trans ((hb1.mono hZs).trans (za4 (ho.below hb1) (by have:=hb1.size;omega) (Nat.le_refl _) gU))⟩,by show xs.length-(k+1)<xs.length-k;omega⟩
  ·have hc:¬ (k:Int)<(xs.length:Int):=of_decide_eq_false hc
   obtain rfl:k=xs.length:=by omega
   rw [List.take_length] at ho ⊢
   exact⟨(ps,cs),(cvE rfl rfl),ho,fL,hbZ⟩
 clear fL sX hbX
 rintro⟨ps,cs⟩ X ⟨ho,fL,hbX⟩
 dsimp only at ho ⊢
 refine⟨Nat,fun R=>⟨[(1,At0 bx),(2,At0 L),(3,.slice ps (xs.map (·.1.length)).length cs),(6,At0 R)],[]⟩,fun R Z=>CanS W.heap.size Z yl L R (xs.map (·.1.length)) ps cs [] none 0∧L<R∧Below W.heap.size W Z,?_,?_⟩
 ·refine⟨X.heap.size,(cvE rfl rfl),⟨hold _ fL,hnew X _,ho.alloc _,OwnS.nil,fun z hz=>(by cases hz),fun z hz=>(by cases hz),fun z hz=>(by cases hz)⟩,hlt fL,hbX.alloc hbX.size _⟩
 clear ho fL hbX
 rintro R X ⟨hS,hLR,hbX⟩
 refine⟨(List zfH×Option Addr×Nat)×Option Addr×Nat,fun s=>⟨[(1,At0 bx),(2,At0 L),(3,.slice s.2.1 (zc6 m).length s.2.2),(6,At0 R)],[]⟩,fun s Z=>CanS W.heap.size Z yl L R (zc6 m) s.2.1 s.2.2 s.1.1 s.1.2.1 s.1.2.2∧s.1.1.map (fun z=>z.1.map (·.1))=m.wr.map zcB∧Below W.heap.size W Z,?_,?_⟩
 ·refine⟨_,zac (zaa (zab hbX fxW)) (i:=0) rfl,?_⟩
  refine⟨_,zfh (hMW.same fun k hk=>hbX.block k (hRW k hk)).cells (i:=2) rfl,?_⟩
  refine⟨Nat×(List zfH×Option Addr×Nat)×Option Addr×Nat,fun s=>⟨[(1,At0 bx),(2,At0 L),(3,.slice s.2.2.1 (xs.map (·.1.length)++s.2.1.1.map (·.1.length)).length s.2.2.2),(6,At0 R),(35,.slice p3 ys.length c3),(36,i64 ys.length),(37,i64 (s.1:Nat))],[]⟩,
   fun s Z=>s.1≤ys.length∧CanS W.heap.size Z yl L R (xs.map (·.1.length)++s.2.1.1.map (·.1.length)) s.2.2.1 s.2.2.2 s.2.1.1 s.2.1.2.1 s.2.1.2.2∧s.2.1.1.map (fun z=>z.1.map (·.1))=(ys.take s.1).map (fun y=>zcB y.1)∧Below W.heap.size W Z,fun s=>ys.length-s.1,(0,([],none,0),ps,cs),
   ⟨.cons rfl (.cons rfl (.cons (by simp;rfl) (.cons rfl (.cons rfl (.cons rfl (.cons rfl .nil)))))),rfl⟩,⟨Nat.zero_le _,by simpa using hS,rfl,hbX⟩,?_⟩
  clear hS hbX
  rintro⟨k,⟨zs,pr,cr⟩,ps,cs⟩ Z ⟨hk,hS,hz,hbZ⟩
  dsimp only at hk hS hz ⊢
  have hzl:zs.length=k:=by
   have:=congrArg List.length hz
   rw [List.length_map,List.length_map,List.length_take] at this
   omega
  refine biE (fun hc=>?_) fun hc=>?_
  ·have hc:(k:Int)<(ys.length:Int):=of_decide_eq_true hc
   have hkl:k<ys.length:=by omega
   have hZM:=hMW.same fun k hk=>hbZ.block k (hRW k hk)
   obtain⟨y,hyk⟩:∃ y,ys[k]=y:=⟨_,rfl⟩
   have hym:y∈ys:=by rw [← hyk];exact List.getElem_mem hkl
   have hyw:y.1∈m.wr:=by rw [← hM.e3];exact List.mem_map.2 ⟨y,hym,rfl⟩
   obtain⟨bw1,bw2,bw3⟩:=hB.wr _ hyw
   obtain⟨bp,op,hpe,hlp,hat⟩:=hZM.r3.at hkl
   subst hpe
   refine⟨k,rfl,hkl,?_⟩
   refine⟨slV y,by rw [← hyk];exact zac (hat k hkl) (i:=0) rfl,?_⟩
   refine Calls.mono (zmI (hZM.n3 y hym) bw1 (zbF hTW (hbZ.block _ (hRW _ hRt)))) ?_
   rintro e Y ⟨⟨rk,pk,ck,rfl,hrk,ork,onk⟩,hbY⟩
   have hZs:=hbZ.size
   have hSY:=hS.below hbY
   have hrkl:rk.length≤10000:=by rw [← hrk,List.length_map] at bw2;exact bw2
   obtain⟨nz,hnz⟩:∃ nz:zfH,nz=(rk,pk,ck):=⟨_,rfl⟩
   have hen:[Value.slice pk rk.length ck]=rnkE.enc nz:=by rw [hnz];rfl
   refine⟨_,zac (zaa hSY.fR) (i:=0) rfl,?_⟩
   refine⟨⟨by decide,by decide,rfl⟩,rnkE.enc nz,by rw [← hen];rfl,?_⟩
   have hb1:Below Y.heap.size Y (Y.alloc (.cells (rnkE.enc nz).toArray 117)):=(Below.refl _ _).alloc (Nat.le_refl _) _
   have hS1:=hSY.below hb1
   have ork1:=ork.below hb1
   have onk1:=fun x hx=>(onk x hx).below hb1
   unfold opsE zcN
   show SatR _ _
   refine appR hS1.rk (zbd rnkE nz) (by have:=hb1.size;have:=hbY.size;omega) (by have:=hB.wl;omega) fun p' c' U oU gU hat1=>?_
   have fLU:=zaL hS1.fL hS1.rk (by decide) gU
   have fRU:=zaL hS1.fR hS1.rk (by decide) gU
   refine zan (ttOk.get 172 _ rfl) fRU (o:=0) (v := .slice p' (zs++[nz]).length c') rfl rfl (by show 0<1;decide) rfl fun S fS gS sS=>?_
   have hbZY:=hbZ.trans (hbY.mono hZs)
   have sY:=hbY.size
   have sb1:=hb1.size
   have hbU:Below W.heap.size W U:=(hbZY.trans (hb1.mono (by omega))).trans (za4 hS1.rk (by omega) (Nat.le_refl _) gU)
   have hRn:W.heap.size≤R:=by omega
   have hbS:Below W.heap.size W S:=hbU.trans (zam gS hbU.size hRn)
   have hSS:CanS W.heap.size S yl L R (xs.map (·.1.length)++zs.map (·.1.length)) ps cs (zs++[nz]) p' c':=by
    have kU:∀ {α:Type} {E:Enc α} {T cc:Nat} {r:Option Addr} {ll:List α},T≠117→T≠172→OwnS E T W.heap.size (Y.alloc (.cells (rnkE.enc nz).toArray 117)) r cc ll→OwnS E T W.heap.size S r cc ll:=fun {α E T cc r ll} h1 h2 h=>zaO (zbJ h hS1.rk h1 gU) fRU h2 gS
    refine⟨(gS.block L (hlt fLU) (by simp;omega)).trans fLU,fS,kU (by decide) (by decide) hS1.own,zaO oU fRU (by decide) gS,fun z hz=>?_,fun z hz=>?_,fun z hz=>?_⟩
    ·rcases List.mem_append.1 hz with hz | hz
     ·exact kU (by decide) (by decide) (hS1.n1 z hz)
     ·rw [List.mem_singleton.1 hz,hnz]
      exact kU (by decide) (by decide) (ork1.lower hZs)
    ·rcases List.mem_append.1 hz with hz | hz
     ·exact fun x hx=>kU (by decide) (by decide) (hS1.n2 z hz x hx)
     ·rw [List.mem_singleton.1 hz,hnz]
      exact fun x hx=>kU (by decide) (by decide) ((onk1 x hx).lower hZs)
    ·rcases List.mem_append.1 hz with hz | hz
     ·exact hS1.dis z hz
     ·rw [List.mem_singleton.1 hz,hnz]
      intro x hx a b ha hb
      have:=(zaq (onk x hx) hb).1
      have:=(zaq hS.own ha).2.1
      omega
   clear hS1 ork1 onk1 hSY hS oU gU hat1 fLU fRU fS gS
   refine⟨⟨by decide,by decide,rfl⟩,natE.enc rk.length,rfl,?_⟩
   have hb2:Below S.heap.size S (S.alloc (.cells (natE.enc rk.length).toArray 3)):=(Below.refl _ _).alloc (Nat.le_refl _) _
   have hS2:=hSS.below hb2
   have sbS:=hbS.size
   have sb2:=hb2.size
   unfold opsE zcN
   show SatR _ _
   refine appI hS2.own (zbd natE rk.length) (by omega) (by rw [List.length_append,List.length_map,List.length_map];have:=hB.rl;have:=hB.wl;omega) fun p2' c2' V oV gV hat2=>?_
   rw [zcq] at gV
   have hSV:=hS2.size oV gV hat2
   have hzz:(xs.map (·.1.length)++zs.map (·.1.length))++[rk.length]=xs.map (·.1.length)++(zs++[nz]).map (·.1.length):=by
    rw [List.map_append,List.append_assoc,hnz];rfl
   rw [hzz] at hSV ⊢
   refine⟨((k+1:Nat):Int),(zad (by omega)).trans (by omega),?_⟩
   refine⟨(k+1,(zs++[nz],p',c'),p2',c2'),(cvE rfl rfl),⟨hkl,hSV,?_,hbS.trans ((hb2.mono sbS).trans (za4 hS2.own (by omega) (Nat.le_refl _) gV))⟩,by show ys.length-(k+1)<ys.length-k;omega⟩
   rw [List.take_succ_eq_append_getElem hkl,hyk,List.map_append,List.map_append,hz,hnz]
   show _++[rk.map (·.1)]=_++[zcB y.1]
   rw [hrk]
  ·have hc:¬ (k:Int)<(ys.length:Int):=of_decide_eq_false hc
   obtain rfl:k=ys.length:=by omega
   have hz2:zs.map (fun z=>z.1.map (·.1))=m.wr.map zcB:=by
    rw [List.take_length] at hz
    rw [hz,← hM.e3,List.map_map];rfl
   have hsz2:xs.map (·.1.length)++zs.map (·.1.length)=zc6 m:=by
    rw [zjN hM.e2,zh1 hz2];rfl
   rw [hsz2] at hS ⊢
   exact⟨((zs,pr,cr),ps,cs),(cvE rfl rfl),hS,hz2,hbZ⟩
 clear hS hbX
 rintro⟨⟨zs,pr,cr⟩,ps,cs⟩ V ⟨hS,hz,hbV⟩
 dsimp only at hS hz ⊢
 have hVs:=hbV.size
 have hMV:=hMW.same fun k hk=>hbV.block k (hRW k hk)
 have fxV:=zab hbV fxW
 have hsl1:(zc6 m).length≤1000:=by
  unfold zc6
  rw [List.length_append,List.length_map,List.length_map]
  omega
 have hsl2:∀ n∈zc6 m,n≤1000000:=fun n hn=>by
  unfold zc6 at hn
  rcases List.mem_append.1 hn with hn | hn
  ·obtain⟨r,hr,rfl⟩:=List.mem_map.1 hn
   have:=(hB.rs r hr).2.1
   omega
  ·obtain⟨w,hw,rfl⟩:=List.mem_map.1 hn
   have:=(hB.wr w hw).2.1
   omega
 refine Calls.mono znj ?_
 rintro e V1 ⟨rfl,fo,sV1,hbV1⟩
 have hI:=zps fo (hS.own.row.below hbV1) (fun a ha=>by have:=(zaq hS.own ha).2.1;omega) hsl1 hsl2
 obtain⟨Kp,hKp⟩:∃ Kp:(Nat→Prop)→World→Prop,Kp=fun F Y=>V1.heap.size≤Y.heap.size∧∀ k,k<V.heap.size→(Rd k∨W.heap.size≤k)→Y.heap[k]?=V.heap[k]?∧¬ F k:=⟨_,rfl⟩
 have hF0:∀ k,F0 k→k<W.heap.size:=fun k hk=>(hJ.lt _ _ _ _ h0 hk).1
 have hLV:=hlt hS.fL
 have hRV:=hlt hS.fR
 have hb1:Below W.heap.size W V1:=hbV.trans (hbV1.mono hVs)
 refine zeD (sgOk _) rfl (lb := #[At0 V.heap.size]) rfl rfl hI (Nat.le_refl _) (fun k hk=>⟨?_,rfl⟩) (fun pre vs W ⟨l,q,_,h,_⟩=>by rw [h];rfl) (by decide)
  F0 (fun pre F Y=>J (pre.map (zdb m)) F Y∧Kp F Y) (fun _ _ _ _=>False) (fun k hk=>?_) ⟨?_,?_⟩ (fun ex=>⟨fun _ _ _ _ h=>h.elim,fun _ _ _ _ h=>h.elim⟩) ⟨hJ.step _ _ _ _ h0 (.below hb1),?_⟩ ?_ ?_ ?_
 ·rcases hk with (rfl | ⟨a,ha,rfl⟩) | h
  ·omega
  ·have:=(zaq hS.own ha).2.1;omega
  ·exact h.elim
 ·rcases hk with rfl | ⟨a,ha,rfl⟩
  ·intro h
   have:=hF0 _ h
   omega
  ·intro h
   have:=hF0 _ h
   have:=(zaq hS.own ha).1
   omega
 ·rintro pre F A C ⟨hj,hk⟩ hs
  rw [hKp] at hk ⊢
  have hss:=hs.size
  exact⟨hJ.step _ _ _ _ hj (hs.mono (by omega)),Nat.le_trans hk.1 hss,fun k h1 h2=>⟨(hs.same k (by have:=hk.1;omega) (.inl ⟨by omega,fun h=>h⟩)).trans (hk.2 k h1 h2).1,(hk.2 k h1 h2).2⟩⟩
 ·rintro pre F A k ⟨hj,_⟩ hk
  exact hJ.lt _ _ _ _ hj hk
 ·rw [hKp]
  refine⟨Nat.le_refl _,fun k h1 h2=>⟨hbV1.block k h1,fun h=>?_⟩⟩
  rcases h2 with h2 | h2
  ·exact hrf k h2 h
  ·have:=hF0 k h;omega
 ·rintro yl2 pre ds vs F Y hyl hpre hJ0 ⟨l,qd,hlast,rfl,hsl,hcel⟩ hfy ⟨lo,hlo⟩
  have hdx:ds=l:=by simpa using hlast
  subst hdx
  refine⟨rfl,F,KeepsG.refl _ _,hJ0,?_⟩
  rintro O Y2 hY2 ⟨hj,hkp⟩
  rw [hKp] at hkp
  obtain⟨hY2s,hkp⟩:=hkp
  have hkq:=hkp
  have hslY:SlR natE Y2 qd ds:=by
   rw [hY2]
   refine za2 hsl fun a ha=>zai fun e=>?_
   obtain⟨cur,hcur⟩:=hcel a ha
   rw [e,hlo] at hcur
   cases hcur
  obtain⟨hdl,hdlt⟩:=zlH (hpre.subset (List.mem_append_right _ (List.mem_singleton.2 rfl)))
  have hdl2:ds.length=m.rs.length+m.wr.length:=by
   rw [hdl];unfold zc6
   rw [List.length_append,List.length_map,List.length_map]
  have hMY:MixM Rd Y2 b o m q c p1 p2 p3 c1 c2 c3 xs ys:=hMV.same fun k hk=>(hkp k (by have:=hRW k hk;omega) (.inl hk)).1
  have fxY:=(hkp bx (by have:=hRW bx hbx;omega) (.inl hbx)).1.trans fxV
  have fLY:=(hkp L hLV (.inr (by omega))).1.trans hS.fL
  have fRY:=(hkp R hRV (.inr (by omega))).1.trans hS.fR
  have kR:∀ {α:Type} {E:Enc α} {T cc:Nat} {r:Option Addr} {ll:List α},OwnS E T W.heap.size V r cc ll→OwnS E T W.heap.size Y2 r cc ll:=fun {α E T cc r ll} h=>h.same fun a ha=>(hkp _ (zaq h ha).2.1 (.inr (zaq h ha).1)).1
  have rkY:=kR hS.rk
  have n1Y:=fun z hz=>kR (hS.n1 z hz)
  have n2Y:=fun z hz y hy=>kR (hS.n2 z hz y hy)
  clear hkp hlo hcel hsl
  have hbY:b<Y2.heap.size:=by have:=hRW b hM.db;omega
  refine⟨_,zac (zaa fxY) (i:=0) rfl,?_⟩
  have hbase:zau Y2 ⟨b,o,none⟩ (exC m.base q c):=by
   have:=zaw (n:=0) (m:=333) hMY.cells
   rw [List.drop_zero,List.take_append_of_le_length (by rw [zav];decide),List.take_of_length_le (by rw [zav];decide)] at this
   exact this
  refine⟨exC m.base q c,zav _ _ _,hbase,hbY,?_⟩
  obtain⟨M,hMM⟩:=nm (Y2.heap.size)
  refine zap (X:=Y2) (v := .agg (exC m.base q c).toArray) (ttOk.get 34 _ rfl) (zav _ _ _) zaF (zdj _ _ _) fun Z hbZ fZ sZ=>?_
  have fZ:ExH Z Y2.heap.size m.base q c:=fZ
  rw [← hMM] at fZ ⊢
  refine⟨_,zac (zaa fZ) (i:=0) rfl,?_⟩
  refine Calls.mono (zhP (hMY.ev.below hbZ) (by omega) hMY.qn) ?_
  rintro e Z2 ⟨⟨q1,k1,rfl,oE⟩,hbZ2⟩
  refine zan (ttOk.get 22 _ rfl) (zab hbZ2 fZ) (o:=0+0) (v := .slice q1 m.base.ev.length k1) rfl rfl (by rw [zav];decide) rfl fun S fS gS sS=>?_
  rw [show 0+0=0 from rfl,zpL] at fS
  have hMZ2:M<Z2.heap.size:=by have:=hbZ2.size;omega
  have hbS:Below Y2.heap.size Y2 S:=(hbZ.trans (hbZ2.mono hbZ.size)).trans (zam gS (by omega) (by omega))
  have oES:OwnS evE 54 Y2.heap.size S q1 k1 m.base.ev:=zaO (oE.lower hbZ.size) (zab hbZ2 fZ) (by decide) gS
  clear oE gS sS fZ hbZ hbZ2
  have tMY:∀ {S:World},Below Y2.heap.size Y2 S→MixM Rd S b o m q c p1 p2 p3 c1 c2 c3 xs ys:=fun {S} hb=>hMY.same fun k hk=>hb.block k (by have:=hRW k hk;omega)
  have hxlen:=hxl
  refine⟨_,zac (zaa (zab hbS fxY)) (i:=0) rfl,?_⟩
  refine⟨_,zfh (tMY hbS).cells (i:=0) rfl,?_⟩
  refine⟨Nat,fun k=>⟨[(1,At0 bx),(2,At0 L),(6,At0 R),(10,.slice qd ds.length ds.length),(11,At0 M),(67,.slice p1 m.rs.length c1),(68,i64 m.rs.length),(69,i64 (k:Nat))],[]⟩,
   fun k Z=>k≤m.rs.length∧ExH Z M { m.base with rf:=⟨m.base.rf.n,rfF (m.rs.take k) ds m.base.rf.to⟩ } q1 k1∧OwnS evE 54 Y2.heap.size Z q1 k1 m.base.ev∧Below Y2.heap.size Y2 Z,fun k=>m.rs.length-k,0,
   (cvE rfl rfl),⟨Nat.zero_le _,fS,oES,hbS⟩,?_⟩
  clear fS oES hbS
  rintro k Z ⟨hk,fZ,oE,hbZ⟩
  refine biE (fun hc=>?_) fun hc=>?_
  ·have hc:(k:Int)<(m.rs.length:Int):=of_decide_eq_true hc
   have hkl:k<m.rs.length:=by omega
   have hZM:=tMY hbZ
   have hZs:=hbZ.size
   obtain⟨⟨r,s⟩,hrs⟩:∃ x,m.rs[k]=x:=⟨_,rfl⟩
   obtain⟨hr48,hs1,hs48⟩:=hB.rs (r,s) (by rw [← hrs];exact List.getElem_mem hkl)
   dsimp only at hr48 hs1 hs48
   have hkx:k<xs.length:=by omega
   obtain⟨y,hyk⟩:∃ y,xs[k]=y:=⟨_,rfl⟩
   have hym:y∈xs:=by rw [← hyk];exact List.getElem_mem hkx
   have hys:y.1=s:=by
    have h1:(xs.map (·.1))[k]?=some y.1:=by rw [List.getElem?_map,List.getElem?_eq_getElem hkx,hyk];rfl
    rw [hM.e2,List.getElem?_map,List.getElem?_eq_getElem hkl,hrs] at h1
    exact (Option.some.inj h1).symm
   obtain⟨d,hd⟩:∃ d,ds[k]?=some d:=⟨_,List.getElem?_eq_getElem (by omega)⟩
   have hkd:k<ds.length:=by omega
   have hde:ds[k]=d:=by rw [List.getElem?_eq_getElem hkd] at hd;exact Option.some.inj hd
   have hdlt2:d<y.1.length:=by
    refine hdlt k _ d ?_ hd
    unfold zc6
    rw [List.getElem?_append_left (by rw [List.length_map];exact hkl),List.getElem?_map,List.getElem?_eq_getElem hkl,hrs,hys];rfl
   have hdlt3:d<s.length:=by rw [← hys];exact hdlt2
   obtain⟨t,ht⟩:∃ t,y.1[d]=t:=⟨_,rfl⟩
   have hts:s[d]=t:=by
    have h1:y.1[d]?=some t:=by rw [List.getElem?_eq_getElem hdlt2,ht]
    rw [hys,List.getElem?_eq_getElem hdlt3] at h1
    exact Option.some.inj h1
   have ht48:t<48:=hs48 t (by rw [← hts];exact List.getElem_mem hdlt3)
   have hgt:s.getD (ds.getD k 0) 0=t:=by
    rw [List.getD_eq_getElem?_getD,List.getD_eq_getElem?_getD,hd]
    show (s[d]?).getD 0=t
    rw [List.getElem?_eq_getElem hdlt3,hts];rfl
   have htk:rfF (m.rs.take (k+1)) ds m.base.rf.to=upd (rfF (m.rs.take k) ds m.base.rf.to) t (rfF (m.rs.take k) ds m.base.rf.to t|||2^r):=by
    rw [List.take_succ_eq_append_getElem hkl,hrs,ziO,List.length_take,Nat.min_eq_left hk,hgt]
   obtain⟨G,hG⟩:=nm (rfF (m.rs.take k) ds m.base.rf.to)
   have hGw:WrdR G:=by
    rw [hG]
    exact zkS (ds:=[]) hB.rf fun r hr=>(hB.rs r (List.mem_of_mem_take hr)).1
   rw [← hG] at fZ htk
   obtain⟨A,T,hA,hE⟩:=zlx { m.base with rf:=⟨m.base.rf.n,G⟩ } q1 k1
   have hRel:RelAt Z M 50 34 A T ⟨m.base.rf.n,G⟩:=⟨hA,by rw [← hE];exact fZ⟩
   have hr1:k<(m.rs.map (·.1)).length:=by rw [List.length_map];exact hkl
   obtain⟨b1,o1,hp1,hl1,hat1⟩:=hZM.r1.at hr1
   obtain⟨b2,o2,hp2,hl2,hat2⟩:=hZM.r2.at hkx
   obtain⟨b3,o3,hp3,hl3,hat3⟩:=(hZM.n2 y hym).at hdlt2
   have hslZ:=hslY.below hbZ
   obtain⟨b4,o4,hp4,hl4,hat4⟩:=hslZ.at hkd
   have e1:some (Value.slice p1 m.rs.length c1)=some (Value.slice (some ⟨b1,o1,none⟩) m.rs.length c1):=by rw [hp1]
   subst hp1
   subst hp2
   subst hp4
   refine⟨k,rfl,hkl,?_⟩
   refine⟨i64 r,by have:=zac (hat1 k hr1) (i:=0) (v:=i64 r) (by rw [List.getElem_map,hrs];rfl);exact this,?_⟩
   have dZ:Below Z.heap.size Z Z.drew:=(Below.refl _ _).drew
   refine DrawE.ord [23] [0,1,2,3,4,5,6,7,8,9,10,11,12,13,14,15,16,17,18,19,20,21,22,23] (by kernel_rfl) ?_
   refine⟨_,zac (zaa (hdr (zab hbZ fxY))) (i:=0) rfl,?_⟩
   refine⟨_,zfh (hZM.same (X:=Z.drew) fun _ _=>rfl).cells (i:=1) rfl,?_⟩
   refine⟨k,rfl,hkx,?_⟩
   refine⟨slV y,by have:=zac (zag dZ (hat2 k hkx)) (i:=0) (v:=slV y) (by rw [hyk];rfl);exact this,?_⟩
   refine⟨k,rfl,hkd,?_⟩
   refine⟨i64 d,by have:=zac (zag dZ (hat4 k hkd)) (i:=0) (v:=i64 d) (by rw [hde];rfl);exact this,?_⟩
   unfold slV
   rw [hp3]
   refine⟨d,rfl,hdlt2,?_⟩
   refine⟨i64 t,by have:=zac (zag dZ (hat3 d hdlt2)) (i:=0) (v:=i64 t) (by rw [ht];rfl);exact this,?_⟩
   refine⟨t,rfl,ht48,?_⟩
   refine⟨s64 (G t),(hRel.same (Y:=Z.drew) rfl).cell ht48,?_⟩
   refine⟨by omega,_,zci (e:=r) (by omega),?_⟩
   refine⟨_,zc4 (hGw t ht48) (zaN (by omega)),?_⟩
   refine⟨t,rfl,ht48,?_⟩
   refine zan (ttOk.get 24 _ rfl) (hRel.same (Y:=Z.drew) rfl).cells (o:=50+1+t*1) (v:=s64 (G t|||2^r)) rfl rfl (by rw [hRel.len];omega) rfl fun S fS gS sS=>?_
   rw [hRel.set ht48] at fS
   have gS2:Z.grownBy S (some M):=zah (zaj dZ) gS
   refine⟨((k+1:Nat):Int),(zad (by omega)).trans (by omega),?_⟩
   refine⟨k+1,(cvE rfl rfl),⟨hkl,?_,zaO oE fZ (by decide) gS2,hbZ.trans (zam gS2 hZs (by omega))⟩,by show m.rs.length-(k+1)<m.rs.length-k;omega⟩
   rw [htk]
   have e5:=hE ⟨m.base.rf.n,upd G t (G t|||2^r)⟩
   show S.heap[M]?=some (.cells (exC { m.base with rf:=⟨m.base.rf.n,upd G t (G t|||2^r)⟩ } q1 k1).toArray _ _)
   exact fS.trans (by rw [← e5])
  have hc:¬ (k:Int)<(m.rs.length:Int):=of_decide_eq_false hc
  obtain rfl:k=m.rs.length:=by omega
  rw [List.take_length] at fZ
  obtain⟨RF,hRF⟩:∃ RF:ExD,RF={ m.base with rf:=⟨m.base.rf.n,rfF m.rs ds m.base.rf.to⟩ }:=⟨_,rfl⟩
  rw [← hRF] at fZ
  have hRFe:RF.ev=m.base.ev:=by rw [hRF]
  have hRFc:RF.co=m.base.co:=by rw [hRF]
  have hRFm:RF.mem=m.base.mem:=by rw [hRF]
  obtain⟨dl,hdle⟩:=nm (ds.drop m.rs.length)
  have hdll:dl.length=m.wr.length:=by rw [hdle,List.length_drop];omega
  have hslD:SlR natE Y2 (zbg qd ds.length m.rs.length 1) dl:=by
   have:=hslY.sub (cap:=ds.length) (lo:=m.rs.length) (hi:=ds.length) (by omega) (Nat.le_refl _) (Nat.le_refl _)
   rw [List.take_of_length_le (by rw [List.length_drop];exact Nat.le_refl _),← hdle] at this
   exact this
  refine⟨_,zac (zaa (zab hbZ fxY)) (i:=0) rfl,?_⟩
  refine⟨_,zfh (tMY hbZ).cells (i:=0) rfl,?_⟩
  refine⟨m.rs.length,rfl,by omega,?_⟩
  obtain⟨qD,hqD⟩:=nm (zbg qd ds.length m.rs.length 1)
  rw [← hqD] at hslD ⊢
  have hdn:ds.length-m.rs.length=dl.length:=by omega
  rw [hdn]
  obtain⟨Rs,hRs⟩:=nm (m.wr.map zcB)
  have hRsl:Rs.length=m.wr.length:=by rw [hRs,List.length_map]
  have hzl:zs.length=m.wr.length:=by have:=congrArg List.length hz;simpa using this
  have hRsb:∀ R∈Rs,∀ k∈R,k≠[]∧k.length≤48∧∀ a∈k,a<m.base.ev.length:=fun R hR k hk=>by
   rw [hRs] at hR
   obtain⟨w,hw,rfl⟩:=List.mem_map.1 hR
   exact (hB.wr w hw).2.2 k hk
  refine⟨Nat,fun l=>⟨[(1,At0 bx),(2,At0 L),(6,At0 R),(11,At0 M),(104,.slice qD dl.length dl.length),(105,i64 dl.length),(106,i64 (l:Nat))],[]⟩,
   fun l Z=>l≤dl.length∧ExH Z M { RF with co:=(coG m.base.ev 0 (Rs.take l) dl (RF.co,RF.mem)).1,mem:=(coG m.base.ev 0 (Rs.take l) dl (RF.co,RF.mem)).2 } q1 k1∧OwnS evE 54 Y2.heap.size Z q1 k1 m.base.ev∧Below Y2.heap.size Y2 Z,fun l=>dl.length-l,0,
   (cvE rfl rfl),⟨Nat.zero_le _,fZ,oE,hbZ⟩,?_⟩
  clear fZ oE hbZ
  rintro l Z ⟨hl,fZ,oE,hbZ⟩
  obtain⟨P,hP⟩:=nm (coG m.base.ev 0 (Rs.take l) dl (RF.co,RF.mem))
  rw [← hP] at fZ
  have hZs:=hbZ.size
  have hPw:WrdR P.1.to:=by
   rw [hP]
   refine zlR (by rw [hRFc];exact hB.co) fun R hR k hk a ha=>?_
   have:=(hRsb R (List.mem_of_mem_take hR) k hk).2.2 a ha
   omega
  refine biE (fun hc=>?_) fun hc=>?_
  ·have hc:(l:Int)<(dl.length:Int):=of_decide_eq_true hc
   have hll:l<dl.length:=by omega
   have hlz:l<zs.length:=by omega
   have hlR:l<Rs.length:=by omega
   obtain⟨z,hzk⟩:∃ z,zs[l]=z:=⟨_,rfl⟩
   have hzm:z∈zs:=by rw [← hzk];exact List.getElem_mem hlz
   have hzR:Rs[l]?=some (z.1.map (·.1)):=by
    rw [hRs,← hz,List.getElem?_map,List.getElem?_eq_getElem hlz,hzk];rfl
   have hzRm:z.1.map (·.1)∈Rs:=List.mem_of_getElem? hzR
   obtain⟨d,hd⟩:∃ d,dl[l]=d:=⟨_,rfl⟩
   have hdd:dl[l]?=some d:=by rw [List.getElem?_eq_getElem hll,hd]
   have hdz:d<z.1.length:=by
    refine hdlt (m.rs.length+l) _ d ?_ (by rw [hdle,List.getElem?_drop] at hdd;exact hdd)
    unfold zc6
    rw [List.getElem?_append_right (by rw [List.length_map];omega),List.length_map,Nat.add_sub_cancel_left]
    have:=hzR
    rw [hRs,List.getElem?_map] at this
    rw [List.getElem?_map]
    cases hw:m.wr[l]? with
    | none=>rw [hw] at this;cases this
    | some w =>
     rw [hw] at this
     have h2:zcB w=z.1.map (·.1):=Option.some.inj this
     show some (zcB w).length=_
     rw [h2,List.length_map]
   obtain⟨y,hyk⟩:∃ y,z.1[d]=y:=⟨_,rfl⟩
   have hym:y∈z.1:=by rw [← hyk];exact List.getElem_mem hdz
   obtain⟨hy0,hy48,hyev⟩:=hRsb _ hzRm y.1 (List.mem_map.2 ⟨y,hym,rfl⟩)
   have hgy:(z.1.map (·.1)).getD d []=y.1:=by
    rw [List.getD_eq_getElem?_getD,List.getElem?_map,List.getElem?_eq_getElem hdz,hyk];rfl
   obtain⟨hlR2,hzR2⟩:=List.getElem?_eq_some_iff.1 hzR
   have htk:coG m.base.ev 0 (Rs.take (l+1)) dl (RF.co,RF.mem)=(zcD y.1 P.1,upd P.2 l (zeK m.base.ev y.1)):=by
    rw [List.take_succ_eq_append_getElem hlR,hzR2,zjm,← hP,List.length_take,Nat.min_eq_left (by omega),Nat.zero_add]
    rw [show dl.getD l 0=d by rw [List.getD_eq_getElem?_getD,hdd];rfl,hgy]
   obtain⟨bD,oD,hpD,hlD,hatD⟩:=(hslD.below hbZ).at hll
   obtain⟨bR,oR,hpR,hlR0,hatR⟩:=(rkY.below hbZ).row.at hlz
   obtain⟨bz,oz,hpz,hlz0,hatz⟩:=((n1Y z hzm).below hbZ).row.at hdz
   have hyrow:=((n2Y z hzm y hym).below hbZ).row
   have hylt:=fun a ha=>(zaq (n2Y z hzm y hym) (a:=a) ha).2.1
   subst hpD
   subst hpR
   refine⟨l,rfl,hll,?_⟩
   refine⟨i64 d,by have:=zac (hatD l hll) (i:=0) (v:=i64 d) (by rw [hd];rfl);exact this,?_⟩
   refine⟨_,zac (zaa (zab hbZ fRY)) (i:=0) rfl,?_⟩
   refine⟨l,rfl,hlz,?_⟩
   refine⟨.slice z.2.1 z.1.length z.2.2,by have:=zac (hatR l hlz) (i:=0) (v := .slice z.2.1 z.1.length z.2.2) (by rw [hzk];rfl);exact this,?_⟩
   rw [hpz]
   refine⟨d,rfl,hdz,?_⟩
   refine⟨slV y,by have:=zac (hatz d hdz) (i:=0) (v:=slV y) (by rw [hyk];rfl);exact this,?_⟩
   obtain⟨A,T,hA,hE⟩:=zjg { RF with co:=P.1,mem:=P.2 } q1 k1
   have hRel:RelAt Z M 99 34 A T P.1:=⟨hA,by rw [← hE];exact fZ⟩
   refine Calls.mono (znn hRel hPw hyrow (fun a ha=>by have:=hylt a ha;omega) (by omega) (fun a ha=>by have:=hyev a ha;omega)) ?_
   rintro e V2 ⟨rfl,hRel2,gV2⟩
   have fV2:ExH V2 M { RF with co:=zcD y.1 P.1,mem:=P.2 } q1 k1:=by
    have e5:=hE (zcD y.1 P.1)
    show V2.heap[M]?=some (.cells (exC { RF with co:=zcD y.1 P.1,mem:=P.2 } q1 k1).toArray _ _)
    exact hRel2.cells.trans (by rw [← e5])
   have hbV2:Below Y2.heap.size Y2 V2:=hbZ.trans (zam gV2 hZs (by omega))
   have oE2:=zaO oE fZ (by decide) gV2
   have hyr2:=((n2Y z hzm y hym).below hbV2).row
   obtain⟨j,hj2⟩:∃ j,j+1=y.1.length:=⟨y.1.length-1,by have:=List.length_pos_iff.2 hy0;omega⟩
   have hjl:j<y.1.length:=by omega
   obtain⟨b6,o6,hp6,hl6,hat6⟩:=hyr2.at hjl
   obtain⟨t,ht⟩:∃ t,y.1[j]=t:=⟨_,rfl⟩
   have htev:t<m.base.ev.length:=hyev t (by rw [← ht];exact List.getElem_mem hjl)
   have hlast:y.1.getLastD 0=t:=by
    rw [List.getLastD_eq_getLast?,List.getLast?_eq_getElem?,show y.1.length-1=j by omega,List.getElem?_eq_getElem hjl,ht];rfl
   obtain⟨b7,o7,hp7,hl7,hat7⟩:=oE2.row.at htev
   have hlV:zeK m.base.ev y.1=(m.base.ev[t]).v:=by
    show (m.base.ev.getD (y.1.getLastD 0) ev0).v=_
    rw [hlast,List.getD_eq_getElem?_getD,List.getElem?_eq_getElem htev];rfl
   have dV:Below V2.heap.size V2 V2.drew:=(Below.refl _ _).drew
   have hl6':l<6:=by omega
   unfold slV
   rw [hp6]
   refine DrawE.ord [15] [0,1,2,3,4,5,6,7,8,9,10,11,12,13,14,15] (by kernel_rfl) ?_
   refine⟨.slice q1 m.base.ev.length k1,by have:=zac (zaa (hdr fV2)) (i:=0) (v := .slice q1 RF.ev.length k1) rfl;rw [hRFe] at this;exact this,?_⟩
   refine⟨(j:Nat),(zad (by omega)).trans (by omega),?_⟩
   refine⟨j,rfl,hjl,?_⟩
   refine⟨i64 t,by have:=zac (zag dV (hat6 j hjl)) (i:=0) (v:=i64 t) (by rw [ht];rfl);exact this,?_⟩
   rw [hp7]
   refine⟨t,rfl,htev,?_⟩
   refine⟨u8 (m.base.ev[t]).v,by have:=zac (zag dV (hat7 t htev)) (i:=3) (v:=u8 (m.base.ev[t]).v) rfl;exact this,?_⟩
   refine⟨l,rfl,hl6',?_⟩
   refine zan (ttOk.get 5 _ rfl) (hdr fV2) (o:=327+l*1) (v:=u8 (m.base.ev[t]).v) rfl rfl (by rw [zav];omega) rfl fun S fS gS sS=>?_
   rw [Nat.mul_one,zoq _ _ _ hl6'] at fS
   have gS2:V2.grownBy S (some M):=zah (zaj dV) gS
   refine⟨((l+1:Nat):Int),(zad (by omega)).trans (by omega),?_⟩
   refine⟨l+1,(cvE rfl rfl),⟨hll,?_,by rw [← hp7];exact zaO oE2 fV2 (by decide) gS2,hbV2.trans (zam gS2 hbV2.size (by omega))⟩,by show dl.length-(l+1)<dl.length-l;omega⟩
   rw [htk,hlV,← hp7]
   exact fS
  have hc:¬ (l:Int)<(dl.length:Int):=of_decide_eq_false hc
  obtain rfl:l=dl.length:=by omega
  rw [List.take_of_length_le (by omega)] at hP
  have hcand:zdb m ds={ RF with co:=P.1,mem:=P.2 }:=by
   rw [hP,hRF,hdle,hRs];rfl
  rw [← hcand] at fZ
  have oE:OwnS evE 54 Y2.heap.size Z q1 k1 (zdb m ds).ev:=oE
  refine⟨_,zac (zaa (zab hbZ fLY)) (i:=0) rfl,?_⟩
  refine⟨exC (zdb m ds) q1 k1,zav _ _ _,zaa fZ,hlt fZ,?_⟩
  have hjZ:=hJ.step _ _ _ _ hj (StepG.below hbZ)
  have hGv:∀ k,GvX [.agg (exC (zdb m ds) q1 k1).toArray] k→Y2.heap.size≤k∧∃ a,q1=some a∧k=a.block:=by
   rintro k ⟨x,a,cc,he,rfl⟩
   have h1:(exC (zdb m ds) q1 k1).toArray=(exC x (some a) cc).toArray:=by
    have:=List.head_eq_of_cons_eq he
    exact Value.agg.inj this
   have h2:exC (zdb m ds) q1 k1=exC x (some a) cc:=by simpa using h1
   have h3:Value.slice q1 (zdb m ds).ev.length k1=Value.slice (some a) x.ev.length cc:=List.head_eq_of_cons_eq h2
   have h4:q1=some a:=by injection h3
   exact⟨(zaq oE h4).1,a,h4,rfl⟩
  have hmp:(pre++[ds]).map (zdb m)=pre.map (zdb m)++[zdb m ds]:=by rw [List.map_append];rfl
  have hpm:(pre.map (zdb m)++[zdb m ds]) <+: zf8 m:=by
   obtain⟨t,ht⟩:=hpre
   refine⟨t.map (zdb m),?_⟩
   unfold zf8
   rw [← ht,List.map_append,hmp]
  refine YieldR.mono (hy _ (zdb m ds) [.agg (exC (zdb m ds) q1 k1).toArray] F Z hjZ ⟨_,q1,k1,by simp,rfl,oE.lower (by omega)⟩ (fun k hk=>by have:=(hGv k hk).1;omega) hpm) ?_
  rintro v U ⟨rfl,F',hjU,kU⟩
  refine brF ?_
  have kF:KeepsG F F' Y2 U:=⟨kU.os.trans hbZ.os,kU.tape.trans hbZ.tape,kU.output.trans hbZ.output,Nat.le_trans hbZ.size kU.size,fun k hk hf=>(kU.same k (by omega) (fun h=>h.elim hf fun h=>by have:=(hGv k h).1;omega)).trans (hbZ.block k hk),fun k hk=>by
   rcases kU.fp k hk with (h | h) | h
   ·exact .inl h
   ·exact .inr (hGv k h).1
   ·exact .inr (by omega)⟩
  refine⟨F',⟨by rw [hmp];exact hjU,?_⟩,kF⟩
  rw [hKp]
  refine⟨Nat.le_trans hY2s kF.size,fun k h1 h2=>?_⟩
  obtain⟨h3,h4⟩:=hkq k h1 h2
  refine⟨(kF.same k (by omega) h4).trans h3,fun h=>?_⟩
  rcases kF.fp k h with h | h
  ·exact h4 h
  ·omega
 ·rintro D F Y hD hfD ⟨hj,hk⟩ hdef
  refine⟨_,rfl,hdef,⟨_,rfl⟩,F,?_⟩
  show J ((zdS (zc6 m)).map (zdb m)) F _
  exact hJ.step _ _ _ _ hj (.put (by omega) hfD _)
 ·rintro D ex pre F Y hD hfD hpre h
  exact h.elim
end
end Go.Proofs.YtmbghmhjjodgmaaGreatDoor
namespace Go.Sei
def isR (x : ExD) (i : Nat) : Bool := decide ((evA x i).k = 1)
def isW (x : ExD) (i : Nat) : Bool := decide ((evA x i).k = 2)
def accA (x : ExD) (i : Nat) : Bool := isR x i || isW x i
def hasM (r : RelD) (a b : Nat) : Bool := (r.to a).testBit b
def rowP (n : Nat) (p : Nat → Bool) : Nat := (List.range n).foldl (fun s b => if p b = true then s ||| 2 ^ b else s) 0
def zh4 (n : Nat) (p : Nat → Nat → Bool) : RelD := zc8 n fun a => rowP n (p a)
def znd (r : RelD) (l : List RelD) : RelD := l.foldl (fun r o => (zo4 r o).1) r
def frM (x : ExD) : RelD := (zmq (zaU x.rf) x.co).1
def zpd (x : ExD) (a b : Nat) : Bool := accA x a && (accA x b && decide ((evA x a).l = (evA x b).l))
def extM (x : ExD) (r : RelD) : RelD := zh4 r.n.toNat fun a b => hasM r a b && !decide ((evA x a).th = (evA x b).th)
def zod (x : ExD) (md : UInt8) : Nat := ((List.range x.ev.length).filter fun i => decide ((evA x i).k = 3) && decide ((evA x i).m = md)).foldl (fun s i => s ||| 2 ^ i) 0
def zin (x : ExD) (md : UInt8) : RelD := (zmq (zmq x.po (idR x.ev.length (zod x md))).1 x.po).1
def zgg (x : ExD) (a : Nat) (md : UInt8) : Bool := decide ((evA x a).m = md) || decide ((evA x a).m = 3)
def znw (x : ExD) (f : RelD) (a b : Nat) : Bool := hasM f a b || (zgg x a 3 || zgg x b 3)
def zqx (m : Nat) (x : ExD) (f l s : RelD) (a b : Nat) : Bool :=
  match m with
  | 1 => false
  | 2 => true
  | 3 => isR x a || (isW x b || znw x f a b)
  | 4 => isR x a || (znw x f a b || (isW x b && (zpd x a b || hasM s a b)))
  | 5 => (isR x a && (zgg x a 1 || hasM l a b)) || ((isW x b && (zgg x b 2 || hasM s a b)) || hasM f a b)
  | 6 => hasM x.dt a b || ((hasM x.ct a b && isW x b) || (hasM x.rm a b || (hasM f a b || ((hasM l a b && (isR x a && isR x b)) || (hasM s a b && (isW x a && isW x b))))))
  | _ => false
def zqw (m : Nat) (x : ExD) : RelD := zh4 x.ev.length fun a b => hasM x.po a b && (accA x a && (accA x b && zqx m x (zin x 3) (zin x 4) (zin x 5) a b))
def zpu (x : ExD) : RelD := zh4 x.ev.length fun a b => hasM x.po a b && zpd x a b
def zl1 (m : Nat) (x : ExD) : Nat :=
  if acyR (znd (zpu x) [x.rf, x.co, frM x]) = true then
    (if zpP (zqD x.rm (zmq (frM x) x.co).1).1 = true then
      (if m = 1 then 0 else if acyR (znd (zqw m x) [if m = 2 then x.rf else extM x x.rf, x.co, frM x]) = true then 0 else 3)
     else 2)
  else 1
def zno (m : Nat) : Bool := decide (1 ≤ m) && decide (m ≤ 6)
def zpA (m : Nat) (x : ExD) : Bool := zno m && (zbH x && decide (zl1 m x = 0))
def zqC (m : Nat) (x : ExD) : Nat := if zno m = true ∧ zbH x = true then zl1 m x else 0
theorem zl8 {p:Nat→Bool} {n k:Nat} (hk:k<n) (h:p k=false):(List.range n).all p=false:=by
 rw [List.all_eq_false]
 exact⟨k,List.mem_range.2 hk,by rw [h];decide⟩
theorem zm6 {p:Nat→Bool} {k:Nat} (h:(List.range k).all p=true) (hp:p k=true):(List.range (k+1)).all p=true:=by
 rw [List.range_succ,List.all_append,h]
 simp [hp]
theorem zcC {a j:Nat}:(2^a).testBit j=decide (j=a):=by
 rw [Nat.testBit_two_pow]
 exact decide_eq_decide.2 ⟨fun e=>e.symm,fun e=>e.symm⟩
theorem zkW {a:Nat}:∀ (l:List Nat) (f:Nat→Nat) (b j:Nat),((l.foldl (fun f b=>upd f b (f b|||2^a)) f) b).testBit j=((f b).testBit j||(decide (b∈l)&&decide (j=a)))
 | [],f,b,j=>by simp
 | x::l,f,b,j=>by
  rw [List.foldl_cons,zkW l]
  by_cases hx:b=x
  ·subst hx
   rw [za1,Nat.testBit_or,zcC]
   by_cases hl:b∈l <;> by_cases hj:j=a <;> simp [hl,hj]
  ·rw [zck _ _ hx]
   simp [hx]
theorem zhL (to:Nat→Nat):∀ (n b j:Nat),(zc0 to n b).testBit j=(decide (j<n)&&decide (b∈els (to j)))
 | 0,b,j=>by
  show (0:Nat).testBit j=_
  simp
 | n+1,b,j=>by
  have ih:=zhL to n b j
  unfold zc0 at ih ⊢
  rw [List.range_succ,List.foldl_append,List.foldl_cons,List.foldl_nil,zkW,ih]
  by_cases hj:j=n
  ·subst hj
   simp
  ·by_cases h2:j<n
   ·rw [decide_eq_true h2,decide_eq_true (by omega:j<n+1),decide_eq_false hj];simp
   ·rw [decide_eq_false h2,decide_eq_false (by omega:¬ j<n+1),decide_eq_false hj];simp
theorem zjt {r:RelD} (h:okR r=true) {b j:Nat}:((zaU r).to b).testBit j=(decide ((j:Int)<r.n)&&decide (b∈els (r.to j))):=by
 have hn:0≤r.n:=by
  unfold okR at h
  rw [Bool.and_eq_true,decide_eq_true_eq] at h
  exact h.1
 have e:zaU r=⟨r.n,zc0 r.to r.n.toNat⟩:=if_pos h
 rw [e]
 show (zc0 r.to r.n.toNat b).testBit j=_
 rw [zhL]
 congr 1
 exact decide_eq_decide.2 (by omega)
theorem zgM {s:Nat} (h0:s≠0) (h:s<2^64):ctz s∈els s:=by
 rw [(zbv h0 h).1]
 exact List.mem_cons_self
end Go.Sei
namespace Go.Proofs.YtmbghmhjjodgmaaGreatDoor
open Go.Vc Go.RowKit Go.Sei
section
variable {b c:Nat} {x:ExD} {q:Option Addr} {w:World}
theorem zfv {k:Nat}:x.ev.getD k ev0=evA x k:=rfl
theorem zkR (fx:ExH w b x q c) (hv:ExV w x q) (hn:x.rf.n=x.ev.length) (hok:okR x.rf=true) (hT:Tz64M w):Calls Tryz.prog 42 #[At0 b] w fun e w'=>e = .returned (.bool (zco x))∧Below w.heap.size w w':=by
 refine zal (S:=sg 72) (sgOk _) (args:=[At0 b]) (.s .p (.c .p .p)) Tryz.func42 rfl rfl (Nat.le_of_ble_eq_true rfl) rfl ?_
 obtain⟨from_,hfr⟩:∃ f,f=zaU x.rf:=⟨_,rfl⟩
 have hn20:=hv.n
 refine⟨Nat,fun F=>⟨[(0,At0 b),(3,At0 F)],[]⟩,fun F X=>RelH X F from_∧WrdR from_.to∧w.heap.size≤F∧Below w.heap.size w X,?_,?_⟩
 ·refine⟨relC x.rf,zaf _,?_,hlt fx,?_⟩
  ·have h:=zaw (n:=50) (m:=49) (zaa fx)
   obtain⟨A,T,hA,hE⟩:=zlx x q c
   have e:=hE x.rf
   have e2:(exC x q c).drop 50=relC x.rf++T:=by
    show (exC { x with rf:=x.rf } q c).drop 50=_
    rw [e,← hA,List.drop_left]
   have e3:((exC x q c).toArray.toList.drop 50).take 49=relC x.rf:=by
    show ((exC x q c).drop 50).take 49=_
    rw [e2,List.take_append_of_le_length (by rw [zaf];decide),List.take_of_length_le (by rw [zaf];decide)]
   rw [e3] at h
   exact h
  refine Calls.mono (zme hv.rf hT) ?_
  rintro e Y ⟨rfl,hbY,hwr⟩
  refine zap (X:=Y) (v := .agg (relC (zaU x.rf)).toArray) (ttOk.get 27 _ rfl) (zaf _) (by kernel_rfl) (zaJ _) fun Z hbZ fZ sZ=>?_
  rw [← hfr] at fZ hwr
  exact⟨Y.heap.size,(cvE rfl rfl),fZ,hwr,hbY.size,hbY.trans (hbZ.mono hbY.size)⟩
 rintro F X ⟨fF,hwr,hF,hbX⟩
 have bits:∀ i j,(from_.to i).testBit j=true→j<x.ev.length:=fun i j h=>by
  rw [hfr,zjt hok,Bool.and_eq_true,decide_eq_true_eq,hn] at h
  omega
 refine⟨_,zac (zaa (zab hbX fx)) (i:=0) rfl,?_⟩
 refine⟨Nat,fun k=>⟨[(0,At0 b),(3,At0 F),(18,.slice q x.ev.length c),(19,i64 x.ev.length),(20,i64 (k:Nat))],[]⟩,fun k X=>k≤x.ev.length∧(List.range k).all (fun i=>zdV x (from_.to i) (evA x i))=true∧RelH X F from_∧Below w.heap.size w X,fun k=>x.ev.length-k,0,(cvE rfl rfl),⟨Nat.zero_le _,rfl,fF,hbX⟩,?_⟩
 have hall:zco x=(List.range x.ev.length).all fun i=>zdV x (from_.to i) (evA x i):=by rw [hfr];rfl
 clear fF hbX
 rintro k X ⟨hk,hgo,fF,hbX⟩
 dsimp only
 have hXs:=hbX.size
 refine biE (fun hc=>?_) fun hc=>?_
 ·have hc:(k:Int)<(x.ev.length:Int):=of_decide_eq_true hc
  have hkl:k<x.ev.length:=by omega
  obtain⟨bq,oq,hqe,hb,hat⟩:=zdK (hv.ev.below hbX) hkl
  rw [zfv] at hat
  obtain⟨e,he⟩:=nm (evA x k)
  obtain⟨s,hs⟩:=nm (from_.to k)
  rw [← he] at hat
  have hs64:s<2^64:=by rw [hs];exact hwr k (by omega)
  have eq0:some (Value.slice q x.ev.length c)=some (Value.slice (some ⟨bq,oq,none⟩) x.ev.length c):=by rw [hqe]
  subst hqe
  refine⟨k,rfl,hkl,?_⟩
  refine⟨evE.enc e,rfl,hat,hb,?_⟩
  refine zap (X:=X) (v := .agg (evE.enc e).toArray) (ttOk.get 54 _ rfl) rfl rfl (List.all_eq_true.2 fun u hu=>evE.one e u hu) fun Y hbY fY sY=>?_
  have fY:Y.heap[X.heap.size]?=some (.cells (evE.enc e).toArray 54 (0,0)):=fY
  have hbY2:=hbX.trans (hbY.mono hXs)
  have no:∀ {Z:World},Below w.heap.size w Z→zdV x s e=false→(Ending.returned (.bool false)=Ending.returned (.bool (zco x))∧Below w.heap.size w Z):=fun {Z} hb h=>⟨rb (by
   rw [hall]
   symm
   exact zl8 hkl (by rw [← hs,← he];exact h)),hb⟩
  have yes:∀ {Z:World},RelH Z F from_→Below w.heap.size w Z→zdV x s e=true→(k+1≤x.ev.length∧(List.range (k+1)).all (fun i=>zdV x (from_.to i) (evA x i))=true∧RelH Z F from_∧Below w.heap.size w Z):=fun {Z} f hb h=>⟨hkl,zm6 hgo (by rw [← hs,← he];exact h),f,hb⟩
  refine⟨k,rfl,by omega,?_⟩
  refine⟨s64 s,by rw [hs];exact ze0 (zab hbY fF) (by omega),?_⟩
  refine⟨u8 e.k,zac (zaa fY) (i:=1) rfl,?_⟩
  refine biE (fun h=>?_) fun h=>?_
  ·have h:¬ e.k=1:=by
    have h:(!decide ((e.k.toNat:Int)=((1:UInt8).toNat:Int)))=true:=h
    intro e2
    rw [e2] at h
    simp at h
   have hone:zdV x s e=decide (s=0):=if_neg h
   refine biE (fun h2=>?_) fun h2=>?_
   ·have h2:¬ s=0:=by
     have h2:(!decide ((s:Int)=0))=true:=h2
     intro e2
     rw [e2] at h2
     cases h2
    exact no hbY2 (by rw [hone];exact decide_eq_false h2)
   ·have h2:s=0:=by
     have h2:(!decide ((s:Int)=0))=false:=h2
     have h2:(s:Int)=0:=by simpa using h2
     omega
    refine⟨((k+1:Nat):Int),(zad (by omega)).trans (by omega),?_⟩
    exact⟨k+1,(cvE rfl rfl),yes (zab hbY fF) hbY2 (by rw [hone];exact decide_eq_true h2),by show x.ev.length-(k+1)<x.ev.length-k;omega⟩
  have h:e.k=1:=by
   have h:(!decide ((e.k.toNat:Int)=((1:UInt8).toNat:Int)))=false:=h
   exact zbw.1 (by simpa using h)
  refine Calls.mono (zc3 hs64 (hT.below hbY2)) ?_
  rintro e2 Z ⟨rfl,hbZ⟩
  have hYs:=hbY2.size
  have hbZ2:=hbY2.trans (hbZ.mono hYs)
  have fZ:=zab hbZ fY
  have fFZ:=zab hbZ (zab hbY fF)
  by_cases hs0:s=0
  ·have e1:(els s).isEmpty=true:=by rw [hs0];rfl
   rw [e1]
   refine brT ?_
   refine brT ?_
   refine no hbZ2 ?_
   unfold zdV
   rw [if_pos h,if_pos hs0]
  obtain⟨hd,hem⟩:=zdw hs0 hs64
  rw [hd,hem]
  have hmem:=zgM hs0 hs64
  have hbit:s.testBit (ctz s)=true:=(zdP.1 hmem).2
  have hwl:ctz s<x.ev.length:=bits k _ (by rw [← hs];exact hbit)
  refine brF ?_
  refine⟨by omega,((2^ctz s:Nat):Int),zci (e:=ctz s) (by omega),?_⟩
  refine biE (fun h2=>?_) fun h2=>?_
  ·have h2:¬ s=2^ctz s:=by
    have h2:(!decide ((s:Int)=((2^ctz s:Nat):Int)))=true:=h2
    intro e2
    rw [← e2] at h2
    simp at h2
   refine no hbZ2 ?_
   unfold zdV
   rw [if_pos h,if_neg hs0,if_neg h2]
  have h2:s=2^ctz s:=by
   have h2:(!decide ((s:Int)=((2^ctz s:Nat):Int)))=false:=h2
   have h2:(s:Int)=((2^ctz s:Nat):Int):=by simpa using h2
   exact Int.ofNat.inj h2
  obtain⟨t,ht⟩:=nm (ctz s)
  rw [← ht] at hwl h2 ⊢
  obtain⟨bq2,oq2,hqe2,hb2,hat2⟩:=zdK (hv.ev.below hbZ2) hwl
  rw [zfv] at hat2
  obtain⟨f,hf⟩:=nm (evA x t)
  rw [← hf] at hat2
  have hone:zdV x s e=(decide (f.k=2)&&(decide (f.l=e.l)&&decide (f.v=e.v))):=by
   unfold zdV
   rw [if_pos h,if_neg hs0,← ht,if_pos h2,← hf]
  refine⟨_,zac (zaa (zab hbZ2 fx)) (i:=0) rfl,?_⟩
  refine⟨t,rfl,hwl,?_⟩
  refine⟨evE.enc f,rfl,by
   simp only [Option.some.injEq,Addr.mk.injEq,and_true] at hqe2
   rw [hqe2.1,hqe2.2];exact hat2,by
   simp only [Option.some.injEq,Addr.mk.injEq,and_true] at hqe2
   rw [hqe2.1];exact hb2,?_⟩
  refine zap (X:=Z) (v := .agg (evE.enc f).toArray) (ttOk.get 54 _ rfl) rfl rfl (List.all_eq_true.2 fun u hu=>evE.one f u hu) fun V hbV fV sV=>?_
  have fV:V.heap[Z.heap.size]?=some (.cells (evE.enc f).toArray 54 (0,0)):=fV
  have hbV2:=hbZ2.trans (hbV.mono hbZ2.size)
  have fe:=zab hbV fZ
  have fFV:=zab hbV fFZ
  have n8:∀ {a d:UInt8},(!decide ((a.toNat:Int)=(d.toNat:Int)))=true→¬ a=d:=fun {a d} h e2=>by
   rw [e2] at h
   simp at h
  have y8:∀ {a d:UInt8},(!decide ((a.toNat:Int)=(d.toNat:Int)))=false→a=d:=fun {a d} h=>zbw.1 (by simpa using h)
  refine⟨u8 f.k,zac (zaa fV) (i:=1) rfl,?_⟩
  refine biE (fun h3=>?_) fun h3=>?_
  ·have h3:¬ f.k=2:=n8 (d:=2) h3
   refine brT ?_
   refine brT ?_
   exact no hbV2 (by rw [hone,decide_eq_false h3];rfl)
  have h3:f.k=2:=y8 (d:=2) h3
  refine⟨u8 f.l,zac (zaa fV) (i:=2) rfl,?_⟩
  refine⟨u8 e.l,zac (zaa fe) (i:=2) rfl,?_⟩
  refine biE (fun h4=>?_) fun h4=>?_
  ·have h4:¬ f.l=e.l:=n8 h4
   refine brT ?_
   exact no hbV2 (by rw [hone,decide_eq_false h4,Bool.false_and,Bool.and_false])
  have h4:f.l=e.l:=y8 h4
  refine⟨u8 f.v,zac (zaa fV) (i:=3) rfl,?_⟩
  refine⟨u8 e.v,zac (zaa fe) (i:=3) rfl,?_⟩
  refine biE (fun h5=>?_) fun h5=>?_
  ·have h5:¬ f.v=e.v:=n8 h5
   exact no hbV2 (by rw [hone,decide_eq_false h5,Bool.and_false,Bool.and_false])
  have h5:f.v=e.v:=y8 h5
  refine⟨((k+1:Nat):Int),(zad (by omega)).trans (by omega),?_⟩
  exact⟨k+1,(cvE rfl rfl),yes fFV hbV2 (by rw [hone,decide_eq_true h3,decide_eq_true h4,decide_eq_true h5];rfl),by show x.ev.length-(k+1)<x.ev.length-k;omega⟩
 ·have hc:¬ (k:Int)<(x.ev.length:Int):=of_decide_eq_false hc
  obtain rfl:k=x.ev.length:=by omega
  exact⟨rb (by rw [hall];exact hgo.symm),hbX⟩
end
theorem zqd {bx n:Nat} {w:World} {i:Nat} (f:w.heap[bx]?=some (.cells #[i64 (n:Nat)] 3 (0,0))) (hn:n≤1000):Calls Tryz.prog 122 #[i64 (i:Nat),At0 bx] w fun e w'=>e = .returned (.bool true)∧w'.heap[bx]?=some (.cells #[i64 (n+1:Nat)] 3 (0,0))∧w.grownBy w' (some bx):=by
 refine zae (S:=sg 6) (sgOk _) (args:=[i64 (i:Nat),At0 bx]) Tryz.func122 rfl rfl (Nat.le_of_ble_eq_true rfl) rfl ?_
 refine⟨_,zac (zaa f) (i:=0) rfl,?_⟩
 refine⟨((n+1:Nat):Int),(zad (by omega)).trans (by omega),?_⟩
 exact zan (ttOk.get 3 _ rfl) f (o:=0) (v:=i64 (n+1:Nat)) rfl rfl (by show 0<1;decide) rfl fun w' f' g' s'=>⟨rfl,f',g'⟩
theorem ziu {bs bx s:Nat} {w:World} (fs:w.heap[bs]?=some (.cells #[s64 s] 24 (0,0))) (fx:w.heap[bx]?=some (.cells #[i64 (0:Nat)] 3 (0,0))) (hs:s<2^64) (hT:Tz64M w) (hbx:0≠bx) :
  Calls Tryz.prog 141 #[.func (.func 122) #[] #[At0 bx],At0 bs] w fun e w'=>(∃ v,e = .returned v)∧w'.heap[bx]?=some (.cells #[i64 (lenS s:Nat)] 3 (0,0))∧w.grownBy w' (some bx):=by
 refine zae (S:=sg 16) (sgOk _) (args:=[.func (.func 122) #[] #[At0 bx],At0 bs]) Tryz.func141 rfl rfl (Nat.le_of_ble_eq_true rfl) rfl ?_
 refine⟨_,zac (zaa fs) (i:=0) rfl,?_⟩
 refine⟨Nat×Nat,fun q=>⟨[(0,.func (.func 122) #[] #[At0 bx]),(3,s64 q.2)],[]⟩,fun q X=>X.heap[bx]?=some (.cells #[i64 (q.1:Nat)] 3 (0,0))∧q.1+lenS q.2=lenS s∧q.2<2^64∧w.grownBy X (some bx),fun q=>q.2,(0,s),(cvE rfl rfl),⟨fx,Nat.zero_add _,hs,zbq _ _⟩,?_⟩
 rintro⟨n,r⟩ X ⟨f,hn,hr,gX⟩
 dsimp only at f hn hr ⊢
 have hls:=zfx s
 refine biE (fun hc=>?_) fun hc=>?_
 ·have hc:(!decide ((r:Int)=0))=true:=hc
  have hc:¬ (r:Int)=0:=by simpa using hc
  have hr0:r≠0:=by omega
  obtain⟨e1,e2,_,_⟩:=zbv hr0 hr
  have hl:lenS r=lenS (rest r)+1:=by unfold lenS;rw [e1];rfl
  have hTX:Tz64M X:=zbF hT (gX.block _ (zcl hT) (by simpa using hbx))
  refine Calls.mono (zne hTX hr0 hr) ?_
  rintro e _ ⟨rfl,rfl⟩
  have hn64:n≤1000:=by unfold lenS at hn;omega
  refine Calls.mono (zqd f hn64) ?_
  rintro e V ⟨rfl,fV,gV⟩
  refine brF ?_
  refine⟨((r-1:Nat):Int),(zdU (a:=(r:Int)-1) (by omega)).trans (by omega),?_⟩
  refine⟨((rest r:Nat):Int),zcj (a:=r) (b:=r-1) hr (by omega),?_⟩
  exact⟨(n+1,rest r),(cvE rfl rfl),⟨fV,by show n+1+lenS (rest r)=_;omega,by show rest r<_;omega,zah gX gV⟩,e2⟩
 ·have hc:(!decide ((r:Int)=0))=false:=hc
  have hc:(r:Int)=0:=by simpa using hc
  obtain rfl:r=0:=by omega
  have h0:lenS 0=0:=rfl
  rw [h0,Nat.add_zero] at hn
  exact⟨⟨_,rfl⟩,by rw [← hn];exact f,gX⟩
theorem zqc {s:Nat} {w:World} (hs:s<2^64) (hT:Tz64M w):Calls Tryz.prog 91 #[s64 s] w fun e w'=>e = .returned (i64 (lenS s:Nat))∧Below w.heap.size w w':=by
 refine zal (S:=sg 11) (sgOk _) (args:=[s64 s]) (.s .p (.c .p .p)) Tryz.func91 rfl rfl (Nat.le_of_ble_eq_true rfl) rfl ?_
 obtain⟨L,hL⟩:=nm (w.heap.size)
 refine⟨Unit,fun _=>⟨[(0,s64 s),(3,At0 L)],[]⟩,fun _ Y=>Y.heap[L]?=some (.cells #[i64 (0:Nat)] 3 (0,0))∧Y.heap.size=L+1∧Below w.heap.size w Y,?_,?_⟩
 ·refine zap (X:=w) (v:=i64 0) (ttOk.get 3 _ rfl) rfl rfl rfl fun Y hbY fY sY=>?_
  have fY:Y.heap[w.heap.size]?=some (.cells #[i64 (0:Nat)] 3 (0,0)):=fY
  exact⟨(),⟨.cons rfl (.cons (by rw [hL];rfl) .nil),rfl⟩,by rw [hL];exact fY,by rw [hL];exact sY,hbY⟩
 rintro _ Y ⟨fY,sY,hbY⟩
 refine Calls.mono zf7 ?_
 rintro e _ ⟨rfl,rfl⟩
 have hb2:Below Y.heap.size Y (Y.alloc (.cells #[s64 s] 24)):=(Below.refl _ _).alloc (Nat.le_refl _) _
 have htl:=zcl hT
 refine Calls.mono (ziu (hnew Y _) (zab hb2 fY) hs ((hT.below hbY).below hb2) (by omega)) ?_
 rintro e Z ⟨⟨v,rfl⟩,fZ,gZ⟩
 refine⟨_,zac (zaa fZ) (i:=0) rfl,rfl,?_⟩
 exact (hbY.trans (hb2.mono hbY.size)).trans (zam gZ (by have:=hbY.size;have:=hb2.size;omega) (by omega))
def cmpI (x y:Nat):Int:=if x<y then -1 else if y<x then 1 else 0
theorem znl {x:Nat} {w:World}:Calls Tryz.prog 121 #[i64 (x:Nat)] w fun e w'=>e = .returned (.bool false)∧w=w':=by
 refine zae (S:=sg 6) (sgOk _) (args:=[i64 (x:Nat)]) Tryz.func121 rfl rfl (Nat.le_of_ble_eq_true rfl) rfl ?_
 exact⟨rb (by simp),rfl⟩
theorem zki {x y:Nat} {w:World}:Calls Tryz.prog 90 #[i64 (x:Nat),i64 (y:Nat)] w fun e w'=>e = .returned (i64 (cmpI x y))∧w=w':=by
 refine zae (S:=sg 20) (sgOk _) (args:=[i64 (x:Nat),i64 (y:Nat)]) Tryz.func90 rfl rfl (Nat.le_of_ble_eq_true rfl) rfl ?_
 refine Calls.mono znl ?_
 rintro e _ ⟨rfl,rfl⟩
 refine Calls.mono znl ?_
 rintro e _ ⟨rfl,rfl⟩
 refine brF ?_
 refine brF ?_
 refine biE (fun h=>?_) fun h=>?_
 ·have h:(x:Int)<y:=of_decide_eq_true h
  exact⟨ri (by unfold cmpI;rw [if_pos (by omega)]),rfl⟩
 have h:¬ (x:Int)<y:=of_decide_eq_false h
 refine biE (fun h2=>?_) fun h2=>?_
 ·have h2:(y:Int)<x:=of_decide_eq_true h2
  exact⟨ri (by unfold cmpI;rw [if_neg (by omega),if_pos (by omega)]),rfl⟩
 ·have h2:¬ (y:Int)<x:=of_decide_eq_false h2
  exact⟨ri (by unfold cmpI;rw [if_neg (by omega),if_neg (by omega)]),rfl⟩
section
variable {b c L:Nat} {x:ExD} {q:Option Addr} {w:World}
theorem znu {X:World} (fx:ExH X b x q c) {i:Nat} (hi:i<48):X.cell? ⟨b,0+99+1+i*1,none⟩=some (s64 (x.co.to i)):=by
 obtain⟨A,T,hA,hE⟩:=zjg x q c
 have hR:RelAt X b 99 34 A T x.co:=⟨hA,by rw [← hE];exact fx⟩
 exact hR.cell hi
theorem zp0 {u v:Nat} (fx:ExH w b x q c) (fL:w.heap[L]?=some (.cells #[At0 b] 79 (0,0))) (hco:WrdR x.co.to) (hu:u<48) (hv:v<48) (hT:Tz64M w) :
  Calls Tryz.prog 89 #[i64 (u:Nat),i64 (v:Nat),At0 L] w fun e w'=>e = .returned (i64 (cmpI (lenS (x.co.to v)) (lenS (x.co.to u))))∧Below w.heap.size w w':=by
 refine zae (S:=sg 23) (sgOk _) (args:=[i64 (u:Nat),i64 (v:Nat),At0 L]) Tryz.func89 rfl rfl (Nat.le_of_ble_eq_true rfl) rfl ?_
 refine DrawE.ord [] [0,1,2,3,4,5,6,8,9,10,11,12,13,14,7,15,16,17] (by kernel_rfl) ?_
 have hd:Below w.heap.size w w.drew:=(Below.refl _ _).drew
 refine⟨_,zac (zaa (hdr fL)) (i:=0) rfl,?_⟩
 refine⟨v,rfl,hv,?_⟩
 refine⟨_,znu (hdr fx) hv,?_⟩
 refine⟨_,zac (zaa (hdr fL)) (i:=0) rfl,?_⟩
 refine⟨u,rfl,hu,?_⟩
 refine⟨_,znu (hdr fx) hu,?_⟩
 refine Calls.mono (zqc (hco v hv) (hT.below hd)) ?_
 rintro e X ⟨rfl,hbX⟩
 refine⟨hbX,?_⟩
 refine Calls.mono (zqc (hco u hu) ((hT.below hd).below hbX)) ?_
 rintro e Y ⟨rfl,hbY⟩
 refine⟨hbY,?_⟩
 refine Calls.mono zki ?_
 rintro e _ ⟨rfl,rfl⟩
 exact⟨Below.refl _ _,rfl,(hd.trans hbX).trans (hbY.mono hbX.size)⟩
end
theorem zf4 {key:Nat→Nat} {x:Nat}:∀ (B A:List Nat),(∀ y∈B,key y<key x)→zbk key (B++A) x=B++zbk key A x
 | [],A,_=>rfl
 | y::B,A,h=>by
  show (if key y<key x then y::zbk key (B++A) x else x::y::(B++A))=_
  rw [if_pos (h y List.mem_cons_self),zf4 B A fun z hz=>h z (List.mem_cons_of_mem _ hz)];rfl
theorem zf3 {key:Nat→Nat} {x:Nat}:∀ r:List Nat,(zbk key r x).length=r.length+1
 | []=>rfl
 | y::r=>by
  unfold zbk
  split
  ·show (zbk key r x).length+1=_
   rw [zf3 r];rfl
  ·rfl
theorem zes {key:Nat→Nat} {x a:Nat}:∀ r:List Nat,a∈zbk key r x↔a=x∨a∈r
 | []=>by simp [zbk]
 | y::r=>by
  unfold zbk
  split
  ·rw [List.mem_cons,zes r,List.mem_cons]
   constructor
   ·rintro (h | h | h) <;> simp [h]
   ·rintro (h | h | h) <;> simp [h]
  ·simp
def zda (key:Nat→Nat) (l:List Nat):List Nat:=l.foldl (fun acc x=>zbk key acc x) []
theorem zjH (key:Nat→Nat) (l:List Nat) (x:Nat):zda key (l++[x])=zbk key (zda key l) x:=by
 unfold zda
 rw [List.foldl_append];rfl
theorem zcW {key:Nat→Nat} {a:Nat}:∀ (l acc:List Nat),a∈l.foldl (fun acc x=>zbk key acc x) acc↔a∈l∨a∈acc
 | [],acc=>by simp
 | x::l,acc=>by
  rw [List.foldl_cons,zcW l,zes,List.mem_cons]
  constructor
  ·rintro (h | h | h) <;> simp [h]
  ·rintro ((h | h) | h) <;> simp [h]
theorem zcX {key:Nat→Nat}:∀ (l acc:List Nat),(l.foldl (fun acc x=>zbk key acc x) acc).length=l.length+acc.length
 | [],acc=>by simp
 | x::l,acc=>by
  rw [List.foldl_cons,zcX l,zf3,List.length_cons]
  omega
theorem zg5 {key:Nat→Nat} {l:List Nat} {a:Nat}:a∈zeY key l↔a∈l:=by
 unfold zeY
 rw [List.mem_reverse,zcW];simp
theorem zkG {key:Nat→Nat} (l:List Nat):(zeY key l).length=l.length:=by
 unfold zeY
 rw [List.length_reverse,zcX];rfl
section
variable {b c L g cap:Nat} {x:ExD} {q:Option Addr} {w:World} {l:List Nat}
abbrev keyC (x:ExD):Nat→Nat:=fun i=>lenS (x.co.to i)
theorem zf2 {B:Nat} (ho:OwnS natE 3 B w (some ⟨g,0,none⟩) cap l) (fx:ExH w b x q c) (fL:w.heap[L]?=some (.cells #[At0 b] 79 (0,0))) (hT:Tz64M w) (htg:0≠g) (hco:WrdR x.co.to) (h48:∀ a∈l,a<48) (hn:l.length≤20) (hn1:1≤l.length) :
  Calls Tryz.prog 168 #[.slice (some ⟨g,0,none⟩) l.length cap,i64 0,i64 l.length,.func (.func 89) #[] #[At0 L]] w fun e w'=>e = .returned (.tuple #[])∧OwnS natE 3 B w' (some ⟨g,0,none⟩) cap (zeY (keyC x) l)∧w.grownBy w' (some g):=by
 refine zal (S:=sg 53) (sgOk _) (args:=[.slice (some ⟨g,0,none⟩) l.length cap,i64 0,i64 l.length,.func (.func 89) #[] #[At0 L]]) (.c .p .p) Tryz.func168 rfl rfl (Nat.le_of_ble_eq_true rfl) rfl ?_
 obtain⟨E0,hE0⟩:∃ E0:List (Nat×Value),E0=[(0,.slice (some ⟨g,0,none⟩) l.length cap),(1,i64 0),(2,i64 l.length),(3,.func (.func 89) #[] #[At0 L])]:=⟨_,rfl⟩
 have hbg:b≠g:=fun e=>by
  obtain⟨_,_,cur,hc⟩:=zaq ho rfl
  have hc:w.heap[g]?=_:=hc
  rw [← e,fx] at hc
  simp at hc
 have hLg:L≠g:=fun e=>by
  obtain⟨_,_,cur,hc⟩:=zaq ho rfl
  have hc:w.heap[g]?=_:=hc
  rw [← e,fL] at hc
  simp at hc
 refine⟨Unit,fun _=>⟨[(0,.slice (some ⟨g,0,none⟩) l.length cap),(1,i64 0),(2,i64 l.length),(3,.func (.func 89) #[] #[At0 L]),(8,i64 1)],[]⟩,fun _ X=>w=X,?_,?_⟩
 ·refine⟨1,zad (by omega),?_⟩
  exact⟨(),(cvE rfl rfl),rfl⟩
 rintro _ _ rfl
 have hl0:l.take 1=(zda (keyC x) (l.take 1)).reverse:=by
  cases l with
  | nil=>simp at hn1
  | cons a l=>rfl
 refine⟨Nat,fun i=>⟨[(0,.slice (some ⟨g,0,none⟩) l.length cap),(1,i64 0),(2,i64 l.length),(3,.func (.func 89) #[] #[At0 L]),(8,i64 (i:Nat))],[]⟩,fun i X=>(1≤i∧i≤l.length)∧OwnS natE 3 B X (some ⟨g,0,none⟩) cap ((zda (keyC x) (l.take i)).reverse++l.drop i)∧w.grownBy X (some g),fun i=>l.length-i,1,
  (cvE rfl rfl),⟨⟨Nat.le_refl _,hn1⟩,by rw [← hl0,List.take_append_drop];exact ho,zbq _ _⟩,?_⟩
 rintro i X ⟨⟨hi1,hi⟩,oX,gX⟩
 dsimp only
 refine biE (fun hc=>?_) fun hc=>?_
 ·have hc:(i:Int)<(l.length:Int):=of_decide_eq_true hc
  have hil:i<l.length:=by omega
  obtain⟨u,hu⟩:∃ u,l[i]=u:=⟨_,rfl⟩
  have hum:u∈l:=by rw [← hu];exact List.getElem_mem hil
  obtain⟨S,hS⟩:=nm (zda (keyC x) (l.take i))
  have hSm:∀ a∈S,a<48:=fun a ha=>by
   rw [hS] at ha
   have:=(zcW (key:=keyC x) (l.take i) []).1 ha
   rcases this with h | h
   ·exact h48 a (List.mem_of_mem_take h)
   ·cases h
  have hSl:S.length=i:=by
   rw [hS]
   unfold zda
   rw [zcX,List.length_take]
   simp;omega
  have htk:zda (keyC x) (l.take (i+1))=zbk (keyC x) S u:=by
   rw [List.take_succ_eq_append_getElem hil,hu,zjH,← hS]
  rw [← hS,← List.getElem_cons_drop hil,hu] at oX
  refine⟨List Nat×List Nat,fun s=>⟨[(0,.slice (some ⟨g,0,none⟩) l.length cap),(1,i64 0),(2,i64 l.length),(3,.func (.func 89) #[] #[At0 L]),(8,i64 (i:Nat)),(9,i64 s.1.length)],[]⟩,fun s Y=>S.reverse=s.1++s.2∧(∀ y∈s.2,keyC x y<keyC x u)∧OwnS natE 3 B Y (some ⟨g,0,none⟩) cap (s.1++u::(s.2++l.drop (i+1)))∧w.grownBy Y (some g),fun s=>s.1.length,(S.reverse,[]),
   ⟨.cons rfl (.cons rfl (.cons rfl (.cons rfl (.cons rfl (.cons (by show _=some (i64 (S.reverse.length:Nat));rw [List.length_reverse,hSl];rfl) .nil))))),rfl⟩,⟨by rw [List.append_nil],fun y hy=>(by cases hy),oX,gX⟩,?_⟩
  clear oX gX
  rintro⟨A,Bs⟩ Y ⟨hsp,hkB,oY,gY⟩
  dsimp only at hsp hkB oY ⊢
  have hAl:A.length≤i:=by
   have:=congrArg List.length hsp
   rw [List.length_reverse,hSl,List.length_append] at this
   omega
  have hdY:Below Y.heap.size Y Y.drew:=(Below.refl _ _).drew
  have fin:∀ {Z:World},Below Y.heap.size Y Z→zbk (keyC x) A.reverse u=u::A.reverse→((1≤i+1∧i+1≤l.length)∧OwnS natE 3 B Z (some ⟨g,0,none⟩) cap ((zda (keyC x) (l.take (i+1))).reverse++l.drop (i+1))∧w.grownBy Z (some g)):=fun {Z} hb hins=>by
   refine⟨⟨by omega,hil⟩,?_,za5 gY (hb.mono gY.size)⟩
   have h1:S=Bs.reverse++A.reverse:=by rw [← List.reverse_append,← hsp,List.reverse_reverse]
   rw [htk,h1,zf4 _ _ (fun y hy=>hkB y (by simpa using hy)),hins]
   have h2:(Bs.reverse++u::A.reverse).reverse++l.drop (i+1)=A++u::(Bs++l.drop (i+1)):=by simp
   rw [h2]
   exact oY.below hb
  refine DrawE.ord [] [0,1,2,3,4,5,6,7,8,9,10,11,12,13,14,15,16] (by kernel_rfl) ?_
  refine biE (fun h=>?_) fun h=>?_
  ·have h:(0:Int)<(A.length:Int):=of_decide_eq_true h
   obtain⟨A',y,hA⟩:∃ A' y,A=A'++[y]:=by
    refine⟨A.dropLast,A.getLast (fun e=>by rw [e] at h;simp at h),(List.dropLast_concat_getLast _).symm⟩
   subst hA
   have hA'l:(A'++[y]).length=A'.length+1:=by simp
   rw [hA'l] at hAl h ⊢
   have hrl:((A'++[y])++u::(Bs++l.drop (i+1))).length=l.length:=by
    have:=congrArg List.length hsp
    rw [List.length_reverse,hSl] at this
    simp only [List.length_append,List.length_cons,List.length_nil,List.length_drop] at this ⊢
    omega
   have hyS:y<48:=hSm y (by
    have:y∈S.reverse:=by rw [hsp];simp
    simpa using this)
   obtain⟨b',o',hq',hb',hat'⟩:=oY.row.at (i:=A'.length) (by rw [hrl];omega)
   have hbo:b'=g∧o'=0:=by simpa using hq'.symm
   obtain⟨rfl,rfl⟩:=hbo
   have c1:Y.cell? ⟨b',0+(A'.length+1)*1,none⟩=some (i64 u):=by
    have:=zac (hat' (A'.length+1) (by rw [hrl];omega)) (i:=0) (v:=i64 u) (by
     have e:((A'++[y])++u::(Bs++l.drop (i+1)))[A'.length+1]?=some u:=by
      rw [List.getElem?_append_right (by simp),hA'l,Nat.sub_self];rfl
     rw [List.getElem?_eq_getElem (by rw [hrl];omega)] at e
     rw [Option.some.inj e];rfl)
    exact this
   have c2:Y.cell? ⟨b',0+A'.length*1,none⟩=some (i64 y):=by
    have:=zac (hat' A'.length (by rw [hrl];omega)) (i:=0) (v:=i64 y) (by
     have e:((A'++[y])++u::(Bs++l.drop (i+1)))[A'.length]?=some y:=by
      rw [List.append_assoc,List.getElem?_append_right (Nat.le_refl _),Nat.sub_self];rfl
     rw [List.getElem?_eq_getElem (by rw [hrl];omega)] at e
     rw [Option.some.inj e];rfl)
    exact this
   refine⟨A'.length+1,rfl,by omega,?_⟩
   refine⟨_,c1,?_⟩
   refine⟨(A'.length:Nat),(zad (by omega)).trans (by omega),?_⟩
   refine⟨A'.length,rfl,by omega,?_⟩
   refine⟨_,c2,?_⟩
   have fxY:ExH Y b x q c:=(gY.block b (hlt fx) (by simpa using hbg)).trans fx
   have fLY:Y.heap[L]?=some (.cells #[At0 b] 79 (0,0)):=(gY.block L (hlt fL) (by simpa using hLg)).trans fL
   have hTY:Tz64M Y:=zbF hT (gY.block _ (zcl hT) (by simpa using htg))
   refine Calls.mono (zp0 (hdr fxY) (hdr fLY) hco (h48 u hum) hyS (hTY.below hdY)) ?_
   rintro e Z ⟨rfl,hbZ⟩
   refine⟨hbZ,?_⟩
   have hYZ:=hdY.trans hbZ
   refine biE (fun hm=>?_) fun hm=>?_
   ·have hm:cmpI (lenS (x.co.to y)) (lenS (x.co.to u))<0:=of_decide_eq_true hm
    have hk:keyC x y<keyC x u:=by
     unfold cmpI at hm
     by_cases h1:lenS (x.co.to y)<lenS (x.co.to u)
     ·exact h1
     ·rw [if_neg h1] at hm
      split at hm <;> omega
    have oZ:=oY.below hYZ
    have gZ:=za5 gY (hYZ.mono gY.size)
    obtain⟨b2,o2,hq2,hb2,hat2⟩:=oZ.row.at (i:=A'.length) (by rw [hrl];omega)
    have hbo2:b2=b'∧o2=0:=by simpa using hq2.symm
    obtain⟨rfl,rfl⟩:=hbo2
    have dZ:Below Z.heap.size Z Z.drew:=(Below.refl _ _).drew
    have d1:=zdA hYZ c1
    have d2:=zdA hYZ c2
    refine DrawE.ord [15,17] [0,1,2,3,4,5,6,7,8,9,10,11,12,13,14,15,16,17] (by kernel_rfl) ?_
    refine⟨(A'.length:Nat),(zad (by omega)).trans (by omega),?_⟩
    refine⟨(A'.length:Nat),(zad (by omega)).trans (by omega),?_⟩
    refine⟨A'.length,rfl,by omega,?_⟩
    refine⟨_,d2,?_⟩
    refine⟨A'.length+1,rfl,by omega,?_⟩
    refine⟨_,d1,?_⟩
    refine⟨A'.length+1,rfl,by omega,?_⟩
    refine zh6 (i:=A'.length+1) (v:=y) (ttOk.get 3 _ rfl) rfl (oZ.below dZ) (by rw [hrl];omega) fun V oV gV=>?_
    refine⟨A'.length,rfl,by omega,?_⟩
    refine zh6 (i:=A'.length) (v:=u) (ttOk.get 3 _ rfl) rfl oV (by rw [List.length_set,hrl];omega) fun U oU gU=>?_
    have e1:(((A'++[y])++u::(Bs++l.drop (i+1))).set (A'.length+1) y).set A'.length u=A'++u::((y::Bs)++l.drop (i+1)):=by
     rw [List.append_assoc,List.set_append_right _ _ (by omega),Nat.add_sub_cancel_left,List.set_append_right _ _ (by omega),Nat.sub_self];rfl
    rw [e1] at oU
    refine⟨(A'.length:Nat),(zad (by omega)).trans (by omega),?_⟩
    refine⟨(A',y::Bs),(cvE rfl rfl),⟨by rw [hsp];simp,fun z hz=>?_,oU,zah (zah (za5 gZ (dZ.mono gZ.size)) gV) gU⟩,by show A'.length<_;omega⟩
    rcases List.mem_cons.1 hz with hz | hz
    ·rw [hz];exact hk
    ·exact hkB z hz
   ·have hm:¬ cmpI (lenS (x.co.to y)) (lenS (x.co.to u))<0:=of_decide_eq_false hm
    have hk:¬ keyC x y<keyC x u:=fun h=>hm (by unfold cmpI;rw [if_pos h];decide)
    refine⟨((i+1:Nat):Int),(zad (by omega)).trans (by omega),?_⟩
    refine⟨i+1,(cvE rfl rfl),fin hYZ ?_,by show l.length-(i+1)<l.length-i;omega⟩
    rw [List.reverse_append]
    exact if_neg hk
  ·have h:¬ (0:Int)<(A.length:Int):=of_decide_eq_false h
   have hA0:A=[]:=List.length_eq_zero_iff.1 (by omega)
   subst hA0
   refine brF ?_
   refine⟨((i+1:Nat):Int),(zad (by omega)).trans (by omega),?_⟩
   exact⟨i+1,(cvE rfl rfl),fin hdY rfl,by show l.length-(i+1)<l.length-i;omega⟩
 ·have hc:¬ (i:Int)<(l.length:Int):=of_decide_eq_false hc
  obtain rfl:i=l.length:=by omega
  rw [List.take_length,List.drop_length,List.append_nil] at oX
  exact⟨rfl,oX,gX⟩
end
theorem zqn:∃ G,TyEq Tryz.prog 30 true 6 2 G∧∀ f:Nat→UInt8,G (seg 6 fun i=>u8 (f i)):=by
 refine⟨_,.array (m:=6) (by decide) Tryz.underlying30 (fun w=>Tryz.isAgg30 w) (zaZ (by kernel_rfl) (by kernel_rfl)).1 (by kernel_rfl) tU8,fun f i hi=>?_⟩
 refine⟨((f i).toNat:Int),?_⟩
 unfold zaP
 have h:=zdf (n:=6) (fun i=>u8 (f i)) hi
 rw [Nat.mul_one]
 have hl:i<(seg 6 fun i=>u8 (f i)).length:=by rw [zas];exact hi
 rw [← List.getElem_cons_drop hl,List.take_succ_cons,List.take_zero]
 rw [List.getElem?_eq_getElem hl] at h
 rw [Option.some.inj h];rfl
theorem zmO {f g:Nat→UInt8}:seg 6 (fun i=>u8 (f i))=seg 6 (fun i=>u8 (g i))↔((List.range 6).all fun l=>decide (f l=g l))=true:=by
 rw [List.all_eq_true]
 constructor
 ·intro h i hi
  have hi:=List.mem_range.1 hi
  have h3:=zdf (n:=6) (fun i=>u8 (f i)) hi
  rw [h,zdf (n:=6) (fun i=>u8 (g i)) hi] at h3
  have h4:=Option.some.inj h3
  unfold u8 at h4
  injection h4 with _ h5
  exact decide_eq_true (zbw.1 h5).symm
 ·intro h
  unfold seg
  refine List.map_congr_left fun i hi=>?_
  rw [of_decide_eq_true (h i hi)]
theorem zmY (x y:Operand) (f g:Nat→UInt8) (w:World):(do eqGuard .eql 30 x y (.agg (seg 6 fun i=>u8 (f i)).toArray) (.agg (seg 6 fun i=>u8 (g i)).toArray);binOp .eql 30 (.agg (seg 6 fun i=>u8 (f i)).toArray) (.agg (seg 6 fun i=>u8 (g i)).toArray)).run Tryz.prog w = .ok (.bool ((List.range 6).all fun l=>decide (f l=g l))) w:=by
 obtain⟨G,h1,h2⟩:=zqn
 have:=zjh h1 9998 rfl (by kernel_rfl) (zas 6 _) (zas 6 _) (h2 f) (h2 g) x y w
 rw [this,zcZ zmO,Bool.decide_eq_true]
section
variable {b c L g cap:Nat} {x:ExD} {q:Option Addr} {w:World} {l:List Nat}
theorem zhU {B:Nat} (ho:OwnS natE 3 B w (some ⟨g,0,none⟩) cap l) (fx:ExH w b x q c) (fL:w.heap[L]?=some (.cells #[At0 b] 79 (0,0))) (hT:Tz64M w) (htg:0≠g) (hco:WrdR x.co.to) (h48:∀ a∈l,a<48) (hn:l.length≤19) (hn1:1≤l.length) :
  Calls Tryz.prog 120 #[.slice (some ⟨g,0,none⟩) l.length cap,i64 l.length,.func (.func 89) #[] #[At0 L]] w fun e w'=>e = .returned (.tuple #[])∧OwnS natE 3 B w' (some ⟨g,0,none⟩) cap (zeY (keyC x) l)∧w.grownBy w' (some g):=by
 refine zae (S:=sg 63) (sgOk _) (args:=[.slice (some ⟨g,0,none⟩) l.length cap,i64 l.length,.func (.func 89) #[] #[At0 L]]) Tryz.func120 rfl rfl (Nat.le_of_ble_eq_true rfl) rfl ?_
 refine⟨Unit,fun _=>⟨[(0,.slice (some ⟨g,0,none⟩) l.length cap),(1,i64 l.length),(2,.func (.func 89) #[] #[At0 L]),(6,i64 20),(7,i64 0),(8,i64 20)],[]⟩,fun _ X=>w=X,fun _=>0,(),(cvE rfl rfl),rfl,?_⟩
 rintro _ _ rfl
 refine brN (decide_eq_false (by omega)) ?_
 refine Calls.mono (zf2 ho fx fL hT htg hco h48 (by omega) hn1) ?_
 rintro e X ⟨rfl,oX,gX⟩
 refine⟨Unit,fun _=>⟨[(1,i64 l.length),(6,i64 20)],[]⟩,fun _ Y=>X=Y,fun _=>0,(),(cvE rfl rfl),rfl,?_⟩
 rintro _ _ rfl
 refine brN (decide_eq_false (by omega)) ?_
 exact⟨rfl,oX,gX⟩
theorem zjY {q:Option Addr} {n m:Nat} (hm:m≤1000):Calls Tryz.prog 168 #[.slice q n cap,i64 (m:Nat),i64 (m:Nat),.func (.func 89) #[] #[At0 L]] w fun e w'=>e = .returned (.tuple #[])∧w=w':=by
 refine zae (S:=sg 53) (sgOk _) (args:=[.slice q n cap,i64 (m:Nat),i64 (m:Nat),.func (.func 89) #[] #[At0 L]]) Tryz.func168 rfl rfl (Nat.le_of_ble_eq_true rfl) rfl ?_
 refine⟨((m+1:Nat):Int),(zad (by omega)).trans (by omega),?_⟩
 refine⟨Unit,fun _=>⟨[(2,i64 (m:Nat)),(8,i64 ((m+1:Nat):Int))],[]⟩,fun _ X=>w=X,fun _=>0,(),(cvE rfl rfl),rfl,?_⟩
 rintro _ _ rfl
 refine brN (decide_eq_false (by omega)) ?_
 exact⟨rfl,rfl⟩
theorem zkD {B:Nat} (ho:OwnS natE 3 B w (some ⟨g,0,none⟩) cap l) (fx:ExH w b x q c) (fL:w.heap[L]?=some (.cells #[At0 b] 79 (0,0))) (hT:Tz64M w) (htg:0≠g) (hco:WrdR x.co.to) (h48:∀ a∈l,a<48) (hn:l.length≤20) (hn1:1≤l.length) :
  Calls Tryz.prog 120 #[.slice (some ⟨g,0,none⟩) l.length cap,i64 l.length,.func (.func 89) #[] #[At0 L]] w fun e w'=>e = .returned (.tuple #[])∧OwnS natE 3 B w' (some ⟨g,0,none⟩) cap (zeY (keyC x) l)∧w.grownBy w' (some g):=by
 by_cases h19:l.length≤19
 ·exact zhU ho fx fL hT htg hco h48 h19 hn1
 have hn20:l.length=20:=by omega
 refine zae (S:=sg 63) (sgOk _) (args:=[.slice (some ⟨g,0,none⟩) l.length cap,i64 l.length,.func (.func 89) #[] #[At0 L]]) Tryz.func120 rfl rfl (Nat.le_of_ble_eq_true rfl) rfl ?_
 refine⟨Bool,fun k=>⟨[(0,.slice (some ⟨g,0,none⟩) l.length cap),(1,i64 l.length),(2,.func (.func 89) #[] #[At0 L]),(6,i64 20),(7,i64 (if k=true then (0:Nat) else l.length:Nat)),(8,i64 (if k=true then l.length else 40:Nat))],[]⟩,fun k X=>(k=true∧w=X)∨(k=false∧OwnS natE 3 B X (some ⟨g,0,none⟩) cap (zeY (keyC x) l)∧w.grownBy X (some g)),fun k=>if k=true then 1 else 0,true,⟨.cons rfl (.cons rfl (.cons rfl (.cons rfl (.cons rfl (.cons (by rw [hn20];rfl) .nil))))),rfl⟩,.inl ⟨rfl,rfl⟩,?_⟩
 rintro k X (⟨rfl,rfl⟩ | ⟨rfl,oX,gX⟩)
 ·refine brE (decide_eq_true (by show ((l.length:Nat):Int)≤(l.length:Int);omega)) ?_
  refine Calls.mono (zf2 ho fx fL hT htg hco h48 hn hn1) ?_
  rintro e X ⟨rfl,oX,gX⟩
  refine⟨40,by rw [hn20];rfl,?_⟩
  exact⟨false,(cvE rfl rfl),.inr ⟨rfl,oX,gX⟩,by decide⟩
 ·refine brN (decide_eq_false (by show ¬ ((40:Nat):Int)≤(l.length:Int);omega)) ?_
  refine Calls.mono (zjY (m:=l.length) (by omega)) ?_
  rintro e _ ⟨rfl,rfl⟩
  refine⟨Unit,fun _=>⟨[(1,i64 l.length),(6,i64 20)],[]⟩,fun _ Y=>X=Y,fun _=>0,(),(cvE rfl rfl),rfl,?_⟩
  rintro _ _ rfl
  refine brN (decide_eq_false (by omega)) ?_
  exact⟨rfl,oX,gX⟩
theorem zgU {B:Nat} (ho:OwnS natE 3 B w (some ⟨g,0,none⟩) cap l) (fx:ExH w b x q c) (fL:w.heap[L]?=some (.cells #[At0 b] 79 (0,0))) (hT:Tz64M w) (htg:0≠g) (hco:WrdR x.co.to) (h48:∀ a∈l,a<48) (hn:l.length≤20) (hn1:1≤l.length) :
  Calls Tryz.prog 88 #[.slice (some ⟨g,0,none⟩) l.length cap,.func (.func 89) #[] #[At0 L]] w fun e w'=>e = .returned (.tuple #[])∧OwnS natE 3 B w' (some ⟨g,0,none⟩) cap (zeY (keyC x) l)∧w.grownBy w' (some g):=by
 refine zae (S:=sg 9) (sgOk _) (args:=[.slice (some ⟨g,0,none⟩) l.length cap,.func (.func 89) #[] #[At0 L]]) Tryz.func88 rfl rfl (Nat.le_of_ble_eq_true rfl) rfl ?_
 refine Calls.mono (zkD ho fx fL hT htg hco h48 hn hn1) ?_
 rintro e X ⟨rfl,h1,h2⟩
 exact⟨rfl,h1,h2⟩
theorem zll {l:List Nat} (h:0<l.length):l.headD 48=l[0]:=by
 cases l with
 | nil=>simp at h
 | cons a r=>rfl
theorem znc {k a:Nat} (h:a∈zaW x k):a<x.ev.length:=by
 unfold zaW at h
 exact List.mem_range.1 (List.mem_filter.1 h).1
theorem zkU {k a:Nat} (h:a∈zaC x k):a<x.ev.length:=znc (zg5.1 h)
theorem zpK (q:Option Addr) (c:Nat):((exC x q c).drop 99).take 49=relC x.co:=by
 obtain⟨A,T,hA,hE⟩:=zjg x q c
 show ((exC { x with co:=x.co } q c).drop 99).take 49=_
 rw [hE,← hA,List.drop_left,List.take_append_of_le_length (by rw [zaf];decide),List.take_of_length_le (by rw [zaf];decide)]
theorem zlw (q:Option Addr) (c:Nat):((exC x q c).drop 327).take 6=seg 6 fun i=>u8 (x.mem i):=by
 obtain⟨A,T,hA,hE⟩:=znr x q c []
 have:=hE x.mem
 rw [List.append_nil] at this
 show ((exC { x with mem:=x.mem } q c).drop 327).take 6=_
 rw [this,← hA,List.drop_left,List.take_append_of_le_length (by rw [zas];decide),List.take_of_length_le (by rw [zas];decide)]
abbrev zoX (X:World) (b:Nat) (f:Nat→UInt8):Prop:=X.heap[b]?=some (.cells (seg 6 fun i=>u8 (f i)).toArray 30 (0,0))
theorem zlQ {locs:Nat} (fx:ExH w b x q c) (hv:ExV w x q) (hlo:locs≤6) (hne:∀ l,l<locs→zaW x l≠[]) (hT:Tz64M w) :
  Calls Tryz.prog 43 #[At0 b,i64 locs] w fun e w'=>e = .returned (.bool (zb7 x locs))∧Below w.heap.size w w':=by
 refine zal (S:=sg 87) (sgOk _) (args:=[At0 b,i64 locs]) (.c .p (.c .p (.c .p (.c .p .p)))) Tryz.func43 rfl rfl (Nat.le_of_ble_eq_true rfl) rfl ?_
 obtain⟨L,hL⟩:=nm (w.heap.size)
 have hbw:=hlt fx
 have hn:=hv.n
 have htl:=zcl hT
 refine⟨Unit,fun _=>⟨[(1,i64 locs),(2,At0 L)],[]⟩,fun _ X=>X.heap[L]?=some (.cells #[At0 b] 79 (0,0))∧X.heap.size=L+1∧Below w.heap.size w X,⟨(),⟨.cons rfl (.cons (by rw [hL];rfl) .nil),rfl⟩,by rw [hL];exact hnew w _,by rw [hL];exact World.size_alloc _ _,(Below.refl _ w).alloc (Nat.le_refl _) _⟩,?_⟩
 rintro _ X ⟨fL,sX,hbX⟩
 refine⟨Unit,fun _=>⟨[(1,i64 locs),(2,At0 L),(5,At0 (L+1))],[]⟩,fun _ Y=>RelH Y (L+1) ⟨x.ev.length,fun _=>0⟩∧Y.heap.size=L+2∧Below X.heap.size X Y,?_,?_⟩
 ·refine⟨_,zac (zaa fL) (i:=0) rfl,?_⟩
  refine⟨_,zac (zaa (zab hbX fx)) (i:=0) rfl,?_⟩
  refine⟨relC ⟨x.ev.length,fun _=>0⟩,by kernel_rfl,?_⟩
  refine zap (X:=X) (v := .agg (relC ⟨x.ev.length,fun _=>0⟩).toArray) (ttOk.get 27 _ rfl) (zaf _) (by kernel_rfl) (zaJ _) fun Z hbZ fZ sZ=>?_
  rw [sX] at fZ sZ
  exact⟨(),⟨.cons rfl (.cons rfl (.cons (by rw [← sX];rfl) .nil)),rfl⟩,fZ,sZ,hbZ⟩
 rintro _ Y ⟨fT,sY,hbY⟩
 refine⟨Unit,fun _=>⟨[(1,i64 locs),(2,At0 L),(5,At0 (L+1)),(6,At0 (L+2))],[]⟩,fun _ Z=>zoX Z (L+2) (fun _=>0)∧RelH Z (L+1) ⟨x.ev.length,fun _=>0⟩∧Z.heap[L]?=some (.cells #[At0 b] 79 (0,0))∧Z.heap.size=L+3∧Below w.heap.size w Z,?_,?_⟩
 ·exact⟨(),⟨.cons rfl (.cons rfl (.cons rfl (.cons (by rw [← sY];rfl) .nil))),rfl⟩,by rw [← sY];exact hnew Y _,hold _ fT,hold _ (zab hbY fL),by rw [World.size_alloc,sY],(hbX.trans (hbY.mono hbX.size)).alloc (by have:=hbX.size;have:=hbY.size;omega) _⟩
 clear fL sX hbX fT sY hbY
 clear X Y
 rintro _ X ⟨fM,fT,fL,sX,hbX⟩
 obtain⟨P0,hP0⟩:∃ P0:RelD×(Nat→UInt8),P0=(⟨x.ev.length,fun _=>0⟩,fun _=>0):=⟨_,rfl⟩
 have hco:zb7 x locs=match coGo x locs 0 P0 with
  | none=>false
  | some p=>zbI p.1 x.co&&(List.range 6).all fun l=>decide (p.2 l=x.mem l):=by rw [hP0];rfl
 refine⟨RelD×(Nat→UInt8),fun P=>⟨[(2,At0 L),(5,At0 (L+1)),(6,At0 (L+2))],[]⟩,fun P Z=>coGo x locs 0 P0=some P∧zoX Z (L+2) P.2∧RelH Z (L+1) P.1∧Z.heap[L]?=some (.cells #[At0 b] 79 (0,0))∧Below w.heap.size w Z,?_,?_⟩
 ·refine⟨Nat×(RelD×(Nat→UInt8)),fun s=>⟨[(2,At0 L),(5,At0 (L+1)),(6,At0 (L+2)),(17,i64 locs),(18,i64 (s.1:Nat))],[]⟩,fun s Z=>s.1≤locs∧coGo x (locs-s.1) s.1 s.2=coGo x locs 0 P0∧WrdR s.2.1.to∧zoX Z (L+2) s.2.2∧RelH Z (L+1) s.2.1∧Z.heap[L]?=some (.cells #[At0 b] 79 (0,0))∧Below w.heap.size w Z∧L+3≤Z.heap.size,fun s=>locs-s.1,(0,P0),
   (cvE rfl rfl),⟨Nat.zero_le _,rfl,by rw [hP0];exact fun i _=>(by show 0<_;decide),by rw [hP0];exact fM,by rw [hP0];exact fT,fL,hbX,by omega⟩,?_⟩
  clear fM fT fL sX hbX
  rintro⟨l,P⟩ Z ⟨hl,hgo,hPw,fM,fT,fL,hbZ,sZ⟩
  dsimp only at hl hgo hPw fM fT sZ ⊢
  refine biE (fun hc=>?_) fun hc=>?_
  ·have hc:(l:Int)<(locs:Int):=of_decide_eq_true hc
   have hll:l<locs:=by omega
   have hstep:coGo x (locs-l) l P=if (zaC x l).headD 48=l then coGo x (locs-(l+1)) (l+1) (zcD (zaC x l) P.1,upd P.2 l (zeK x.ev (zaC x l))) else none:=by
    rw [show locs-l=(locs-(l+1))+1 by omega];rfl
   refine⟨_,zac (zaa fL) (i:=0) rfl,?_⟩
   refine⟨_,zac (zaa (zab hbZ fx)) (i:=0) rfl,?_⟩
   obtain⟨pr,hpr⟩:∃ pr:Nat→Bool,pr=fun i=>decide ((evA x i).k=2)&&decide ((evA x i).l.toNat=l):=⟨_,rfl⟩
   refine⟨Nat×Option Addr×Nat,fun s=>⟨[(2,At0 L),(5,At0 (L+1)),(6,At0 (L+2)),(7,i64 (l:Nat)),(8,.slice s.2.1 ((List.range s.1).filter pr).length s.2.2),(17,i64 locs),(18,i64 (l:Nat)),(24,.slice q x.ev.length c),(25,i64 x.ev.length),(26,i64 (s.1:Nat))],[]⟩,fun s V=>s.1≤x.ev.length∧OwnS natE 3 Z.heap.size V s.2.1 s.2.2 ((List.range s.1).filter pr)∧Below Z.heap.size Z V,fun s=>x.ev.length-s.1,(0,none,0),
    (cvE rfl rfl),⟨Nat.zero_le _,OwnS.nil,Below.refl _ _⟩,?_⟩
   rintro⟨k,ps,cs⟩ V ⟨hk,oV,hbV⟩
   dsimp only at hk oV ⊢
   have hVs:=hbV.size
   refine biE (fun hc=>?_) fun hc=>?_
   ·have hc:(k:Int)<(x.ev.length:Int):=of_decide_eq_true hc
    have hkl:k<x.ev.length:=by omega
    have hbwV:=hbZ.trans (hbV.mono hbZ.size)
    obtain⟨bq,oq,hqe,hb,hat⟩:=zdK (hv.ev.below hbwV) hkl
    rw [zfv] at hat
    have hfl:(List.range (k+1)).filter pr=(List.range k).filter pr++if pr k=true then [k] else []:=by
     rw [List.range_succ,List.filter_append,List.filter_cons,List.filter_nil]
    have hprk:pr k=(decide ((evA x k).k=2)&&decide ((evA x k).l.toNat=l)):=by rw [hpr]
    have hll2:((List.range k).filter pr).length≤k:=by
     have:=List.length_filter_le pr (List.range k)
     rw [List.length_range] at this
     exact this
    obtain⟨e,he⟩:=nm (evA x k)
    rw [← he] at hat hprk
    have eq0:some (Value.slice q x.ev.length c)=some (Value.slice (some ⟨bq,oq,none⟩) x.ev.length c):=by rw [hqe]
    subst hqe
    refine⟨k,rfl,hkl,?_⟩
    refine⟨evE.enc e,rfl,hat,hb,?_⟩
    refine zap (X:=V) (v := .agg (evE.enc e).toArray) (ttOk.get 54 _ rfl) rfl rfl (List.all_eq_true.2 fun u hu=>evE.one e u hu) fun U hbU fU sU=>?_
    have fU:U.heap[V.heap.size]?=some (.cells (evE.enc e).toArray 54 (0,0)):=fU
    have oU:=oV.below hbU
    have hbU2:=hbV.trans (hbU.mono hVs)
    have hUs:=hbU2.size
    have skip:pr k=false→(k+1≤x.ev.length∧OwnS natE 3 Z.heap.size U ps cs ((List.range (k+1)).filter pr)∧Below Z.heap.size Z U):=fun h=>⟨hkl,by rw [hfl,h];simpa using oU,hbU2⟩
    have skipE:pr k=false→((List.range (k+1)).filter pr).length=((List.range k).filter pr).length:=fun h=>by rw [hfl,h];simp
    refine⟨u8 e.k,zac (zaa fU) (i:=1) rfl,?_⟩
    refine biE (fun h1=>?_) fun h1=>?_
    ·have h1:e.k=2:=zbw.1 (of_decide_eq_true h1)
     refine⟨u8 e.l,zac (zaa fU) (i:=2) rfl,?_⟩
     refine⟨(e.l.toNat:Int),zaE _,?_⟩
     refine biE (fun h2=>?_) fun h2=>?_
     ·have h2:(e.l.toNat:Int)=(l:Int):=of_decide_eq_true h2
      have hp1:pr k=true:=by rw [hprk,decide_eq_true h1,decide_eq_true (by omega:e.l.toNat=l)];rfl
      rw [if_pos hp1] at hfl
      refine⟨⟨by decide,by decide,rfl⟩,natE.enc k,rfl,?_⟩
      have hb2:Below U.heap.size U (U.alloc (.cells (natE.enc k).toArray 3)):=(Below.refl _ _).alloc (Nat.le_refl _) _
      have sb2:=hb2.size
      unfold opsE zcN
      show SatR _ _
      refine appI (oU.below hb2) (zbd natE k) (by omega) (by omega) fun p' c' S oS gS hat2=>?_
      rw [zcq] at gS
      rw [← hfl] at oS ⊢
      refine⟨((k+1:Nat):Int),(zad (by omega)).trans (by omega),?_⟩
      exact⟨(k+1,p',c'),(cvE rfl rfl),⟨hkl,oS,hbU2.trans ((hb2.mono hUs).trans (za4 (oU.below hb2) (by omega) (Nat.le_refl _) gS))⟩,by show x.ev.length-(k+1)<x.ev.length-k;omega⟩
     ·have h2:¬ (e.l.toNat:Int)=(l:Int):=of_decide_eq_false h2
      have hp0:pr k=false:=by rw [hprk,decide_eq_false (by omega:¬ e.l.toNat=l),Bool.and_false]
      refine⟨((k+1:Nat):Int),(zad (by omega)).trans (by omega),?_⟩
      exact⟨(k+1,ps,cs),⟨.cons rfl (.cons rfl (.cons rfl (.cons rfl (.cons (by show _=some (Value.slice ps ((List.range (k+1)).filter pr).length cs);rw [skipE hp0];rfl) (.cons rfl (.cons rfl (.cons rfl (.cons rfl (.cons rfl .nil))))))))),rfl⟩,skip hp0,by show x.ev.length-(k+1)<x.ev.length-k;omega⟩
    ·have h1:¬ e.k=2:=fun e2=>(of_decide_eq_false h1) (by rw [e2];rfl)
     have hp0:pr k=false:=by rw [hprk,decide_eq_false h1];rfl
     refine brF ?_
     refine⟨((k+1:Nat):Int),(zad (by omega)).trans (by omega),?_⟩
     exact⟨(k+1,ps,cs),⟨.cons rfl (.cons rfl (.cons rfl (.cons rfl (.cons (by show _=some (Value.slice ps ((List.range (k+1)).filter pr).length cs);rw [skipE hp0];rfl) (.cons rfl (.cons rfl (.cons rfl (.cons rfl (.cons rfl .nil))))))))),rfl⟩,skip hp0,by show x.ev.length-(k+1)<x.ev.length-k;omega⟩
   have hc:¬ (k:Int)<(x.ev.length:Int):=of_decide_eq_false hc
   obtain rfl:k=x.ev.length:=by omega
   have hwr:(List.range x.ev.length).filter pr=zaW x l:=by rw [hpr];rfl
   rw [hwr] at oV ⊢
   have hwn:=hne l hll
   have hw1:1≤(zaW x l).length:=List.length_pos_iff.2 hwn
   have hw19:(zaW x l).length≤20:=by
    have:=List.length_filter_le pr (List.range x.ev.length)
    rw [hwr,List.length_range] at this
    omega
   have hps:∃ g,ps=some ⟨g,0,none⟩:=by
    rcases oV.inv with ⟨_,_,h⟩ | ⟨g,cur,h,_⟩
    ·exact (hwn h).elim
    ·exact⟨g,h⟩
   obtain⟨g,rfl⟩:=hps
   have hg:=(zaq oV rfl).1
   have hg:Z.heap.size≤g:=hg
   have hbwV:=hbZ.trans (hbV.mono hbZ.size)
   have hZw:=hbZ.size
   refine Calls.mono (zgU oV (zab hbwV fx) (zab hbV fL) (hT.below hbwV) (by omega) hv.co (fun a ha=>by have:=znc ha;omega) hw19 hw1) ?_
   rintro e U ⟨rfl,oU,gU⟩
   have oU:OwnS natE 3 Z.heap.size U (some ⟨g,0,none⟩) cs (zaC x l):=oU
   have hrl:(zaC x l).length=(zaW x l).length:=zkG _
   have hbU:Below Z.heap.size Z U:=hbV.trans (zam gU hVs hg)
   have hbwU:=hbZ.trans (hbU.mono hZw)
   have hU0:0<(zaC x l).length:=by omega
   obtain⟨bq,oq,hqe,hbq,hatq⟩:=oU.row.at hU0
   have hbo:bq=g∧oq=0:=by simpa using hqe.symm
   obtain⟨rfl,rfl⟩:=hbo
   rw [← hrl]
   have hh:(zaC x l).headD 48=(zaC x l)[0]:=zll hU0
   refine⟨0,rfl,hU0,?_⟩
   refine⟨i64 (zaC x l)[0],by have:=zac (hatq 0 hU0) (i:=0) (v:=i64 (zaC x l)[0]) rfl;exact this,?_⟩
   refine biE (fun h=>?_) fun h=>?_
   ·have h:(!decide (((zaC x l)[0]:Int)=(l:Int)))=true:=h
    have h:¬ ((zaC x l)[0]:Int)=(l:Int):=by simpa using h
    rw [hstep,if_neg (by rw [hh];omega)] at hgo
    refine⟨rb ?_,hbwU⟩
    rw [hco,← hgo]
   have h:(!decide (((zaC x l)[0]:Int)=(l:Int)))=false:=h
   have h:((zaC x l)[0]:Int)=(l:Int):=by simpa using h
   rw [hstep,if_pos (by rw [hh];omega)] at hgo
   have fTU:=zab hbU fT
   have hRT:RelAt U (L+1) 0 27 [] [] P.1:=⟨rfl,by simpa using fTU⟩
   have hrk48:∀ a∈zaC x l,a<48:=fun a ha=>by have:=zkU ha;omega
   have hLZ:=hlt fT
   have hL2Z:=hlt fM
   refine Calls.mono (znn hRT hPw oU.row (fun a ha=>by cases ha;exact⟨hbq,by show bq≠L+1;omega⟩) (by omega) hrk48) ?_
   rintro e S ⟨rfl,hRS,gS⟩
   have fTS:RelH S (L+1) (zcD (zaC x l) P.1):=by simpa using hRS.cells
   have hbS:Below w.heap.size w S:=hbwU.trans (zam gS hbwU.size (by omega))
   have fMS:=(gS.block (L+2) (hlt (zab hbU fM)) (by simp)).trans (zab hbU fM)
   have fLS:=(gS.block L (hlt (zab hbU fL)) (by simp)).trans (zab hbU fL)
   have oS:=zaO oU fTU (by decide) gS
   obtain⟨j,hj⟩:∃ j,j+1=(zaC x l).length:=⟨(zaC x l).length-1,by omega⟩
   have hjl:j<(zaC x l).length:=by omega
   obtain⟨b6,o6,hp6,hl6,hat6⟩:=oS.row.at hjl
   have hbo6:b6=bq∧o6=0:=by simpa using hp6.symm
   obtain⟨rfl,rfl⟩:=hbo6
   obtain⟨t,ht⟩:∃ t,(zaC x l)[j]=t:=⟨_,rfl⟩
   have htev:t<x.ev.length:=zkU (by rw [← ht];exact List.getElem_mem hjl)
   have hlast:(zaC x l).getLastD 0=t:=by
    rw [List.getLastD_eq_getLast?,List.getLast?_eq_getElem?,show (zaC x l).length-1=j by omega,List.getElem?_eq_getElem hjl,ht];rfl
   obtain⟨b7,o7,hp7,hl7,hat7⟩:=zdK (hv.ev.below hbS) htev
   rw [zfv] at hat7
   have hlV:zeK x.ev (zaC x l)=(evA x t).v:=by
    show (x.ev.getD ((zaC x l).getLastD 0) ev0).v=_
    rw [hlast];rfl
   have dS:Below S.heap.size S S.drew:=(Below.refl _ _).drew
   refine DrawE.ord [15] [0,1,2,3,4,5,6,7,8,9,10,11,12,13,14,15] (by kernel_rfl) ?_
   refine⟨_,zac (zaa (hdr fLS)) (i:=0) rfl,?_⟩
   refine⟨_,zac (zaa (hdr (zab hbS fx))) (i:=0) rfl,?_⟩
   refine⟨(j:Nat),(zad (by omega)).trans (by omega),?_⟩
   refine⟨j,rfl,hjl,?_⟩
   refine⟨i64 t,by have:=zac (zag dS (hat6 j hjl)) (i:=0) (v:=i64 t) (by rw [ht];rfl);exact this,?_⟩
   rw [hp7]
   refine⟨t,rfl,htev,?_⟩
   refine⟨u8 (evA x t).v,by have:=zac (zag dS hat7) (i:=3) (v:=u8 (evA x t).v) rfl;exact this,?_⟩
   refine⟨l,rfl,by omega,?_⟩
   refine zan (ttOk.get 5 _ rfl) (hdr fMS) (o:=0+l*1) (v:=u8 (evA x t).v) rfl rfl (by rw [zas];omega) rfl fun T fT2 gT sT=>?_
   have gT2:S.grownBy T (some (L+2)):=zah (zaj dS) gT
   have e8:=zkK (n:=6) (fun i=>u8 (P.2 i)) (fun i=>u8 (upd P.2 l (evA x t).v i)) (i:=l) (by omega) rfl (fun j hj=>by rw [zck _ _ hj])
   rw [za1] at e8
   rw [Nat.mul_one,Nat.zero_add,e8] at fT2
   refine⟨((l+1:Nat):Int),(zad (by omega)).trans (by omega),?_⟩
   refine⟨(l+1,(zcD (zaC x l) P.1,upd P.2 l (evA x t).v)),(cvE rfl rfl),⟨hll,by rw [← hlV];exact hgo,zhx hPw hrk48,fT2,(gT2.block (L+1) (hlt fTS) (by simp)).trans fTS,(gT2.block L (hlt fLS) (by simp)).trans fLS,hbS.trans (zam gT2 hbS.size (by omega)),by have:=gT2.size;have:=gS.size;have:=hbU.size;omega⟩,by show locs-(l+1)<locs-l;omega⟩
  ·have hc:¬ (l:Int)<(locs:Int):=of_decide_eq_false hc
   obtain rfl:l=locs:=by omega
   rw [Nat.sub_self] at hgo
   exact⟨P,(cvE rfl rfl),hgo.symm,fM,fT,fL,hbZ⟩
 rintro P Z ⟨hgo,fM,fT,fL,hbZ⟩
 have hco2:zb7 x locs=(zbI P.1 x.co&&(List.range 6).all fun l=>decide (P.2 l=x.mem l)):=by rw [hco,hgo]
 refine DrawE.ord [] [0,1,2,3,4,5,6,7,8,9,10,11,12,13,14,15] (by kernel_rfl) ?_
 have dZ:Below Z.heap.size Z Z.drew:=(Below.refl _ _).drew
 refine⟨relC P.1,zaf _,zaa (hdr fT),hlt (hdr fT),?_⟩
 refine⟨_,zac (zaa (hdr fL)) (i:=0) rfl,?_⟩
 have fxZ:=hdr (zab hbZ fx)
 refine⟨relC x.co,zaf _,by have h:=zaw (n:=99) (m:=49) (zaa fxZ);rw [show (exC x q c).toArray.toList=exC x q c from rfl,zpK] at h;exact h,hlt fxZ,?_⟩
 refine⟨_,fun w=>zcY _ _ P.1 x.co w,?_⟩
 have fin:Below w.heap.size w Z.drew:=hbZ.trans (dZ.mono hbZ.size)
 refine biE (fun h=>?_) fun h=>?_
 ·have h:zbI P.1 x.co=true:=h
  refine⟨seg 6 (fun i=>u8 (P.2 i)),zas _ _,zaa (hdr fM),hlt (hdr fM),?_⟩
  refine⟨_,zac (zaa (hdr fL)) (i:=0) rfl,?_⟩
  refine⟨seg 6 (fun i=>u8 (x.mem i)),zas _ _,by have h:=zaw (n:=327) (m:=6) (zaa fxZ);rw [show (exC x q c).toArray.toList=exC x q c from rfl,zlw] at h;exact h,hlt fxZ,?_⟩
  refine⟨_,fun w=>zmY _ _ P.2 x.mem w,?_⟩
  exact⟨rb (by rw [hco2,h,Bool.true_and]),fin⟩
 ·have h:zbI P.1 x.co=false:=h
  exact⟨rb (by rw [hco2,h,Bool.false_and]),fin⟩
end
section
variable {b c:Nat} {x:ExD} {q:Option Addr} {w:World}
theorem ziN {X:World} {o:Nat} {A T:List Value} {r:RelD} (fx:ExH X b x q c) (hA:A.length=o) (hE:exC x q c=A++(relC r++T)) {i:Nat} (hi:i<48):X.cell? ⟨b,o+1+i*1,none⟩=some (s64 (r.to i)):=by
 have hR:RelAt X b o 34 A T r:=⟨hA,by rw [← hE];exact fx⟩
 exact hR.cell hi
theorem zpk {X:World} (fx:ExH X b x q c) {i:Nat} (hi:i<48):X.cell? ⟨b,0+1+1+i*1,none⟩=some (s64 (x.po.to i)):=by
 obtain⟨A,T,hA,hE⟩:=zok x q c []
 exact ziN fx hA (by rw [← hE,List.append_nil]) hi
theorem zpR {X:World} (fx:ExH X b x q c) {i:Nat} (hi:i<48):X.cell? ⟨b,0+148+1+i*1,none⟩=some (s64 (x.dt.to i)):=by
 obtain⟨A,T,hA,hE⟩:=zol x q c []
 exact ziN fx hA (by rw [← hE,List.append_nil]) hi
theorem zpY {X:World} (fx:ExH X b x q c) {i:Nat} (hi:i<48):X.cell? ⟨b,0+197+1+i*1,none⟩=some (s64 (x.ct.to i)):=by
 obtain⟨A,T,hA,hE⟩:=zom x q c []
 exact ziN fx hA (by rw [← hE,List.append_nil]) hi
theorem zpf {X:World} (fx:ExH X b x q c) {i:Nat} (hi:i<48):X.cell? ⟨b,0+246+1+i*1,none⟩=some (s64 (x.rm.to i)):=by
 obtain⟨A,T,hA,hE⟩:=zoi x q c []
 exact ziN fx hA (by rw [← hE,List.append_nil]) hi
theorem n64 {a b:Nat} (h:(!decide ((a:Int)=(b:Int)))=true):¬ a=b:=fun e=>by
 rw [e] at h
 simp at h
theorem y64 {a b:Nat} (h:(!decide ((a:Int)=(b:Int)))=false):a=b:=by
 have h:(a:Int)=(b:Int):=by simpa using h
 exact Int.ofNat.inj h
theorem n8 {a d:UInt8} (h:(!decide ((a.toNat:Int)=(d.toNat:Int)))=true):¬ a=d:=fun e2=>by
 rw [e2] at h
 simp at h
theorem y8 {a d:UInt8} (h:(!decide ((a.toNat:Int)=(d.toNat:Int)))=false):a=d:=zbw.1 (by simpa using h)
def wrG (x:ExD) (k:Nat):Nat:=(List.range k).foldl (fun s i=>if (evA x i).k=2 then s|||2^i else s) 0
theorem ziG (x:ExD) (k:Nat):wrG x (k+1)=if (evA x k).k=2 then wrG x k|||2^k else wrG x k:=by
 unfold wrG
 rw [List.range_succ,List.foldl_append];rfl
theorem ziH (x:ExD):∀ k,k≤64→wrG x k<2^64
 | 0,_=>by show 0<_;decide
 | k+1,h=>by
  rw [ziG]
  split
  ·exact Nat.or_lt_two_pow (ziH x k (by omega)) (zaN (by omega))
  ·exact ziH x k (by omega)
theorem zj5 (fx:ExH w b x q c) (hv:ExV w x q) (hrn:x.rm.n=x.ev.length) (hok:okR x.rm=true) (hT:Tz64M w) :
  Calls Tryz.prog 44 #[At0 b] w fun e w'=>e = .returned (.bool (zb1 x))∧Below w.heap.size w w':=by
 refine zal (S:=sg 130) (sgOk _) (args:=[At0 b]) (.s .p (.s .p (.c .p .p))) Tryz.func44 rfl rfl (Nat.le_of_ble_eq_true rfl) rfl ?_
 have hn:=hv.n
 obtain⟨W,hW⟩:=nm (zch x)
 have hWG:W=wrG x x.ev.length:=by rw [hW];rfl
 have hW64:W<2^64:=by rw [hWG];exact ziH x _ (by omega)
 refine⟨Unit,fun _=>⟨[(0,At0 b),(3,s64 W),(4,s64 0)],[]⟩,fun _ X=>Below w.heap.size w X,?_,?_⟩
 ·refine⟨_,zac (zaa fx) (i:=0) rfl,?_⟩
  refine⟨Nat,fun k=>⟨[(0,At0 b),(3,s64 (wrG x k)),(4,s64 0),(17,.slice q x.ev.length c),(18,i64 x.ev.length),(19,i64 (k:Nat))],[]⟩,fun k X=>k≤x.ev.length∧Below w.heap.size w X,fun k=>x.ev.length-k,0,
   (cvE rfl rfl),⟨Nat.zero_le _,Below.refl _ _⟩,?_⟩
  rintro k X ⟨hk,hbX⟩
  dsimp only
  refine biE (fun hc=>?_) fun hc=>?_
  ·have hc:(k:Int)<(x.ev.length:Int):=of_decide_eq_true hc
   have hkl:k<x.ev.length:=by omega
   obtain⟨bq,oq,hqe,hb,hat⟩:=zdK (hv.ev.below hbX) hkl
   rw [zfv] at hat
   obtain⟨e,he⟩:=nm (evA x k)
   have hs:=ziG x k
   rw [← he] at hat hs
   subst hqe
   refine⟨k,rfl,hkl,?_⟩
   refine⟨evE.enc e,rfl,hat,hb,?_⟩
   refine zap (X:=X) (v := .agg (evE.enc e).toArray) (ttOk.get 54 _ rfl) rfl rfl (List.all_eq_true.2 fun u hu=>evE.one e u hu) fun Y hbY fY sY=>?_
   have fY:Y.heap[X.heap.size]?=some (.cells (evE.enc e).toArray 54 (0,0)):=fY
   have hbY2:=hbX.trans (hbY.mono hbX.size)
   refine⟨u8 e.k,zac (zaa fY) (i:=1) rfl,?_⟩
   refine biE (fun h=>?_) fun h=>?_
   ·have h:e.k=2:=zbw.1 (of_decide_eq_true h)
    rw [if_pos h] at hs
    refine⟨by omega,((2^k:Nat):Int),zci (e:=k) (by omega),?_⟩
    refine⟨((wrG x k|||2^k:Nat):Int),zc4 (ziH x k (by omega)) (zaN (by omega)),?_⟩
    refine⟨((k+1:Nat):Int),(zad (by omega)).trans (by omega),?_⟩
    exact⟨k+1,⟨.cons rfl (.cons (by show _=some (s64 (wrG x (k+1)));rw [hs];rfl) (.cons rfl (.cons rfl (.cons rfl (.cons rfl .nil))))),rfl⟩,⟨hkl,hbY2⟩,by show x.ev.length-(k+1)<x.ev.length-k;omega⟩
   ·have h:¬ e.k=2:=fun e2=>(of_decide_eq_false h) (by rw [e2];rfl)
    rw [if_neg h] at hs
    refine⟨((k+1:Nat):Int),(zad (by omega)).trans (by omega),?_⟩
    exact⟨k+1,⟨.cons rfl (.cons (by show _=some (s64 (wrG x (k+1)));rw [hs];rfl) (.cons rfl (.cons rfl (.cons rfl (.cons rfl .nil))))),rfl⟩,⟨hkl,hbY2⟩,by show x.ev.length-(k+1)<x.ev.length-k;omega⟩
  ·have hc:¬ (k:Int)<(x.ev.length:Int):=of_decide_eq_false hc
   obtain rfl:k=x.ev.length:=by omega
   exact⟨(),⟨.cons rfl (.cons (by show _=some (s64 W);rw [hWG];rfl) (.cons rfl .nil)),rfl⟩,hbX⟩
 rintro _ X hbX
 refine⟨_,zac (zaa (zab hbX fx)) (i:=0) rfl,?_⟩
 have hdep:zb1 x=zeb x W 0 x.ev 0:=by rw [hW];rfl
 refine⟨Nat×Nat,fun s=>⟨[(0,At0 b),(3,s64 W),(4,s64 s.2),(35,.slice q x.ev.length c),(36,i64 x.ev.length),(37,i64 (s.1:Nat))],[]⟩,fun s X=>s.1≤x.ev.length∧zeb x W s.1 (x.ev.drop s.1) s.2=zb1 x∧s.2<2^64∧Below w.heap.size w X,fun s=>x.ev.length-s.1,(0,0),
  (cvE rfl rfl),⟨Nat.zero_le _,hdep.symm,by decide,hbX⟩,?_⟩
 clear hbX
 rintro⟨k,h⟩ X ⟨hk,hgo,hh,hbX⟩
 dsimp only at hk hgo hh ⊢
 refine biE (fun hc=>?_) fun hc=>?_
 ·have hc:(k:Int)<(x.ev.length:Int):=of_decide_eq_true hc
  have hkl:k<x.ev.length:=by omega
  have hk48:k<48:=by omega
  obtain⟨bq,oq,hqe,hb,hat⟩:=zdK (hv.ev.below hbX) hkl
  rw [zfv] at hat
  obtain⟨e,he⟩:=nm (evA x k)
  rw [← he] at hat
  have hdrp:x.ev.drop k=e::x.ev.drop (k+1):=by
   rw [← List.getElem_cons_drop hkl,he]
   unfold evA
   rw [List.getD_eq_getElem?_getD,List.getElem?_eq_getElem hkl];rfl
  rw [hdrp] at hgo
  unfold zeb at hgo
  obtain⟨d,hd⟩:=nm (x.dt.to k)
  obtain⟨t,ht⟩:=nm (x.ct.to k)
  obtain⟨r,hr⟩:=nm (x.rm.to k)
  obtain⟨po,hpo⟩:=nm (x.po.to k)
  dsimp only at hgo
  rw [← hd,← ht,← hr,← hpo] at hgo
  have d64:d<2^64:=by rw [hd];exact hv.dt k hk48
  have t64:t<2^64:=by rw [ht];exact hv.ct k hk48
  have r64:r<2^64:=by rw [hr];exact hv.rm k hk48
  have p64:po<2^64:=by rw [hpo];exact hv.po k hk48
  have dt64:=Nat.or_lt_two_pow d64 t64
  have dtr64:=Nat.or_lt_two_pow dt64 r64
  have dr64:=Nat.or_lt_two_pow d64 r64
  subst hqe
  refine⟨k,rfl,hkl,?_⟩
  refine⟨evE.enc e,rfl,hat,hb,?_⟩
  refine zap (X:=X) (v := .agg (evE.enc e).toArray) (ttOk.get 54 _ rfl) rfl rfl (List.all_eq_true.2 fun u hu=>evE.one e u hu) fun Y hbY fY sY=>?_
  have fY:Y.heap[X.heap.size]?=some (.cells (evE.enc e).toArray 54 (0,0)):=fY
  have hbY2:=hbX.trans (hbY.mono hbX.size)
  have dY:Below Y.heap.size Y Y.drew:=(Below.refl _ _).drew
  have fxY:=hdr (zab hbY2 fx)
  have fYd:=hdr fY
  have hbD:=hbY2.trans (dY.mono hbY2.size)
  have no:∀ {Z:World},Below w.heap.size w Z→zb1 x=false→(Ending.returned (.bool false)=Ending.returned (.bool (zb1 x))∧Below w.heap.size w Z):=fun {Z} hb h=>⟨rb h.symm,hb⟩
  refine DrawE.ord [] [0,1,2,3,4,5,6,7,8,9,10,11,12,13,14,15,16,17,18,19,20,21,22,23] (by kernel_rfl) ?_
  refine⟨k,rfl,hk48,?_⟩
  refine⟨s64 d,by rw [hd];exact zpR fxY hk48,?_⟩
  refine⟨k,rfl,hk48,?_⟩
  refine⟨s64 t,by rw [ht];exact zpY fxY hk48,?_⟩
  refine⟨k,rfl,hk48,?_⟩
  refine⟨s64 r,by rw [hr];exact zpf fxY hk48,?_⟩
  refine⟨_,zc4 d64 t64,?_⟩
  refine⟨_,zc4 dt64 r64,?_⟩
  refine biE (fun h1=>?_) fun h1=>?_
  ·have h1:d|||t|||r=0:=Int.ofNat.inj (of_decide_eq_true h1)
   rw [if_pos h1] at hgo
   refine⟨((k+1:Nat):Int),(zad (by omega)).trans (by omega),?_⟩
   exact⟨(k+1,h),(cvE rfl rfl),⟨hkl,hgo,hh,hbD⟩,by show x.ev.length-(k+1)<x.ev.length-k;omega⟩
  have h1:¬ d|||t|||r=0:=fun e2=>(of_decide_eq_false h1) (by rw [e2];rfl)
  rw [if_neg h1] at hgo
  refine⟨u8 e.k,zac (zaa fYd) (i:=1) rfl,?_⟩
  refine biE (fun h2=>?_) fun h2=>?_
  ·have h2:¬ e.k=1:=n8 (d:=1) h2
   rw [if_neg fun h=>h2 h.1] at hgo
   refine brT ?_
   refine brT ?_
   exact no hbD hgo.symm
  have h2:e.k=1:=y8 (d:=1) h2
  refine⟨_,zc4 d64 r64,?_⟩
  refine⟨_,zdr dr64 hW64,?_⟩
  refine biE (fun h3=>?_) fun h3=>?_
  ·have h3:¬ zbX (d|||r) W=0:=n64 (b:=0) h3
   rw [if_neg fun h=>h3 h.2.1] at hgo
   refine brT ?_
   exact no hbD hgo.symm
  have h3:zbX (d|||r) W=0:=y64 (b:=0) h3
  refine⟨_,zc4 d64 t64,?_⟩
  refine⟨_,zc4 dt64 r64,?_⟩
  refine⟨k,rfl,hk48,?_⟩
  refine⟨s64 po,by rw [hpo];exact zpk fxY hk48,?_⟩
  refine⟨_,zdr dtr64 p64,?_⟩
  refine biE (fun h4=>?_) fun h4=>?_
  ·have h4:¬ zbX (d|||t|||r) po=0:=n64 (b:=0) h4
   rw [if_neg fun h=>h4 h.2.2] at hgo
   exact no hbD hgo.symm
  have h4:zbX (d|||t|||r) po=0:=y64 (b:=0) h4
  rw [if_pos ⟨h2,h3,h4⟩] at hgo
  refine Calls.mono (zc3 r64 (hT.below hbD)) ?_
  rintro e2 Z ⟨rfl,hbZ⟩
  have hbZ2:=hbD.trans (hbZ.mono hbD.size)
  by_cases hr0:r=0
  ·have e1:(els r).isEmpty=true:=by rw [hr0];rfl
   rw [e1]
   rw [if_pos hr0] at hgo
   refine brF ?_
   refine⟨((k+1:Nat):Int),(zad (by omega)).trans (by omega),?_⟩
   exact⟨(k+1,h),(cvE rfl rfl),⟨hkl,hgo,hh,hbZ2⟩,by show x.ev.length-(k+1)<x.ev.length-k;omega⟩
  rw [if_neg hr0] at hgo
  obtain⟨hhd,hem⟩:=zdw hr0 r64
  rw [hhd,hem]
  have hmem:=zgM hr0 r64
  have hbit:r.testBit (ctz r)=true:=(zdP.1 hmem).2
  have hvl:ctz r<x.ev.length:=by
   have:=(zgn hok hv.rm hk48 (by rw [← hr];exact hbit)).1
   rw [hrn] at this
   omega
  obtain⟨v,hvd⟩:=nm (ctz r)
  rw [← hvd] at hvl hgo ⊢
  refine brT ?_
  have fZ:=zab hbZ fYd
  have dZ:Below Z.heap.size Z Z.drew:=(Below.refl _ _).drew
  have hbZ3:=hbZ2.trans (dZ.mono hbZ2.size)
  refine DrawE.ord [] [0,1,2,3,4,5,6,7,8,9,10,11,12,13,14,15,16,17,18,19,20,21,22,23] (by kernel_rfl) ?_
  refine⟨by omega,((2^v:Nat):Int),zci (e:=v) (by omega),?_⟩
  refine biE (fun h5=>?_) fun h5=>?_
  ·have h5:¬ r=2^v:=n64 h5
   rw [if_neg fun h=>h5 h.1] at hgo
   refine brT ?_
   refine brT ?_
   exact no hbZ3 hgo.symm
  have h5:r=2^v:=y64 h5
  refine⟨by omega,_,zge (a:=h) (k:=v) (by omega),?_⟩
  refine⟨_,zcj (a:=h/2^v) (b:=1) (Nat.lt_of_le_of_lt (Nat.div_le_self _ _) hh) (by decide),?_⟩
  rw [zl5]
  cases hb5:h.testBit v with
  | true =>
   rw [if_neg fun h=>(by rw [hb5] at h;cases h.2.1)] at hgo
   refine brT ?_
   refine brT ?_
   exact no hbZ3 hgo.symm
  | false =>
   refine brF ?_
   obtain⟨bq2,oq2,hqe2,hb2,hat2⟩:=zdK (hv.ev.below hbZ3) hvl
   rw [zfv] at hat2
   obtain⟨f,hf⟩:=nm (evA x v)
   rw [← hf] at hat2 hgo
   refine⟨_,zac (zaa (zab hbZ3 fx)) (i:=0) rfl,?_⟩
   refine⟨v,rfl,hvl,?_⟩
   simp only [Option.some.injEq,Addr.mk.injEq,and_true] at hqe2
   rw [← hqe2.1,← hqe2.2] at hat2
   refine⟨u8 f.l,by have:=zac hat2 (i:=2) (v:=u8 f.l) rfl;exact this,?_⟩
   refine⟨u8 e.l,zac (zaa (hdr fZ)) (i:=2) rfl,?_⟩
   refine biE (fun h6=>?_) fun h6=>?_
   ·have h6:¬ f.l=e.l:=n8 h6
    rw [if_neg fun h=>h6 h.2.2] at hgo
    exact no hbZ3 hgo.symm
   have h6:f.l=e.l:=y8 h6
   rw [if_pos ⟨h5,hb5,h6⟩] at hgo
   refine⟨_,zc4 hh r64,?_⟩
   refine⟨((k+1:Nat):Int),(zad (by omega)).trans (by omega),?_⟩
   exact⟨(k+1,h|||r),(cvE rfl rfl),⟨hkl,hgo,Nat.or_lt_two_pow hh r64,hbZ3⟩,by show x.ev.length-(k+1)<x.ev.length-k;omega⟩
 ·have hc:¬ (k:Int)<(x.ev.length:Int):=of_decide_eq_false hc
  obtain rfl:k=x.ev.length:=by omega
  rw [List.drop_length] at hgo
  exact⟨rb hgo,hbX⟩
end
theorem zgI {locs:Nat}:∀ (ev:List Ev) (i:Nat) (t:Int) (n:Nat),evGo locs i ev t n=true→∀ j,i+j<locs→j<ev.length→∃ v,ev.getD j ev0=⟨-1,2,UInt8.ofNat (i+j),v,0,0,0⟩
 | [],_,_,_,_,_,_,h=>by simp at h
 | e::ev,i,t,n,h,j,hj,hl=>by
  unfold evGo at h
  rw [if_pos (by omega:i<locs)] at h
  by_cases he:e=⟨-1,2,UInt8.ofNat i,e.v,0,0,0⟩
  ·rw [if_pos he] at h
   cases j with
   | zero=>exact⟨e.v,by rw [Nat.add_zero];exact he⟩
   | succ j =>
    obtain⟨v,hv⟩:=zgI ev (i+1) t n h j (by omega) (by simpa using hl)
    exact⟨v,by rw [show i+(j+1)=i+1+j by omega];exact hv⟩
  ·rw [if_neg he] at h;cases h
theorem zi9 (ev:List Ev):zaD ev≤ev.length:=by
 unfold zaD
 induction ev with
 | nil=>exact Nat.le_refl _
 | cons e ev ih =>
  rw [List.takeWhile_cons]
  split
  ·rw [List.length_cons,List.length_cons];omega
  ·exact Nat.zero_le _
theorem zmh {x:ExD} {locs:Nat} (h:zbl x.ev locs=true) (hl:locs≤x.ev.length) (h6:locs≤6):∀ l,l<locs→zaW x l≠[]:=by
 intro l hll he
 obtain⟨v,hv⟩:=zgI x.ev 0 0 0 h l (by omega) (by omega)
 have:l∈zaW x l:=by
  unfold zaW
  rw [List.mem_filter,List.mem_range]
  refine⟨by omega,?_⟩
  have h2:evA x l=⟨-1,2,UInt8.ofNat (0+l),v,0,0,0⟩:=hv
  rw [h2,Bool.and_eq_true,decide_eq_true_eq,decide_eq_true_eq]
  refine⟨rfl,?_⟩
  show (UInt8.ofNat (0+l)).toNat=l
  rw [Nat.zero_add,UInt8.toNat_ofNat']
  exact Nat.mod_eq_of_lt (by omega)
 rw [he] at this
 cases this
abbrev zcp (x:ExD):List RelD:=[x.po,x.rf,x.co,x.dt,x.ct,x.rm]
theorem zop (x:ExD) (q:Option Addr) (c:Nat) {i:Nat} (hi:i<6):((exC x q c).drop (1+49*i)).take 49=relC ((zcp x).getD i x.po):=by
 have g:∀ {A T:List Value} {o:Nat} {r:RelD},A.length=o→exC x q c=A++(relC r++T)→((exC x q c).drop o).take 49=relC r:=fun {A T o r} hA hE=>by
  rw [hE,← hA,List.drop_left,List.take_append_of_le_length (by rw [zaf];decide),List.take_of_length_le (by rw [zaf];decide)]
 match i,hi with
 | 0,_=>obtain⟨A,T,hA,hE⟩:=zok x q c [];exact g hA (by rw [← hE,List.append_nil];rfl)
 | 1,_=>obtain⟨A,T,hA,hE⟩:=zpG x q c [];exact g hA (by rw [← hE,List.append_nil];rfl)
 | 2,_=>obtain⟨A,T,hA,hE⟩:=zpJ x q c [];exact g hA (by rw [← hE,List.append_nil];rfl)
 | 3,_=>obtain⟨A,T,hA,hE⟩:=zol x q c [];exact g hA (by rw [← hE,List.append_nil];rfl)
 | 4,_=>obtain⟨A,T,hA,hE⟩:=zom x q c [];exact g hA (by rw [← hE,List.append_nil];rfl)
 | 5,_=>obtain⟨A,T,hA,hE⟩:=zoi x q c [];exact g hA (by rw [← hE,List.append_nil];rfl)
theorem znV (L:Nat) {k:Nat} (hk:k<6):((List.range 6).map (fun i=>Value.pointer (some ⟨L,0+(1+49*i),none⟩)))[k]?=some (.pointer (some ⟨L,0+(1+49*k),none⟩)):=by
 rw [List.getElem?_map,List.getElem?_range hk];rfl
def okX (x:ExD) (r:RelD):Bool:=decide (r.n=x.ev.length)&&okR r
section
variable {c:Nat} {x:ExD} {q:Option Addr} {w:World}
theorem ze1 {X:World} {b:Nat} (fx:ExH X b x q c) {i:Nat} (hi:i<6):zau X ⟨b,0+(1+49*i),none⟩ (relC ((zcp x).getD i x.po)):=by
 have h:=zaw (n:=1+49*i) (m:=49) (zaa fx)
 rw [show (exC x q c).toArray.toList=exC x q c from rfl,zop x q c hi] at h
 exact h
theorem ExV.rel (hv:ExV w x q) {i:Nat} (hi:i<6):WrdR ((zcp x).getD i x.po).to:=by
 match i,hi with
 | 0,_=>exact hv.po
 | 1,_=>exact hv.rf
 | 2,_=>exact hv.co
 | 3,_=>exact hv.dt
 | 4,_=>exact hv.ct
 | 5,_=>exact hv.rm
theorem zjz (hv:ExV w x q) (hT:Tz64M w):Calls Tryz.prog 8 #[.agg (exC x q c).toArray] w fun e w'=>e = .returned (.bool (zbH x))∧Below w.heap.size w w':=by
 refine zal (S:=sg 70) (sgOk _) (args:=[.agg (exC x q c).toArray]) (.c .p (.c .p (.c .p (.c .p (.c .p .p))))) Tryz.func8 rfl rfl (Nat.le_of_ble_eq_true rfl) rfl ?_
 obtain⟨L,hL⟩:=nm (w.heap.size)
 have hn:=hv.n
 refine⟨Unit,fun _=>⟨[(1,At0 L)],[]⟩,fun _ X=>ExH X L x q c∧Below w.heap.size w X,⟨(),⟨.cons (by rw [hL];rfl) .nil,rfl⟩,by rw [hL];exact hnew w _,(Below.refl _ w).alloc (Nat.le_refl _) _⟩,?_⟩
 rintro _ X ⟨fx,hbX⟩
 obtain⟨n,hnn⟩:=nm (zaD x.ev)
 refine⟨Unit,fun _=>⟨[(1,At0 L)],[]⟩,fun _ Y=>X=Y,?_,?_⟩
 ·refine⟨_,zac (zaa fx) (i:=0) rfl,?_⟩
  refine biE (fun h=>?_) fun _=>?_
  ·have h:(48:Int)<(x.ev.length:Nat):=of_decide_eq_true h
   omega
  exact⟨(),(cvE rfl rfl),rfl⟩
 rintro _ _ rfl
 refine⟨Unit,fun _=>⟨[(1,At0 L),(3,i64 (n:Nat))],[]⟩,fun _ Y=>Below X.heap.size X Y,?_,?_⟩
 ·refine⟨_,zac (zaa fx) (i:=0) rfl,?_⟩
  refine Calls.mono (zj0 (hv.below hbX).ev (by omega)) ?_
  rintro e Y ⟨rfl,hbY⟩
  rw [← hnn]
  exact⟨(),(cvE rfl rfl),hbY⟩
 rintro _ Y hbY
 have hvX:=hv.below hbX
 have hnl:n≤x.ev.length:=by rw [hnn];exact zi9 _
 have hbwY:=hbX.trans (hbY.mono hbX.size)
 have hr0:decide (x.ev.length≤48)=true:=decide_eq_true (by omega)
 have no:∀ {Z:World},Below w.heap.size w Z→zbH x=false→(Ending.returned (.bool false)=Ending.returned (.bool (zbH x))∧Below w.heap.size w Z):=fun {Z} hb h=>⟨rb h.symm,hb⟩
 refine⟨Unit,fun _=>⟨[(1,At0 L),(3,i64 (n:Nat))],[]⟩,fun _ Z=>zbl x.ev n=true∧(1≤n∧n≤6)∧ExH Z L x q c∧Below w.heap.size w Z,?_,?_⟩
 ·refine biE (fun h1=>?_) fun h1=>?_
  ·have h1:(n:Int)<1:=of_decide_eq_true h1
   refine brT ?_
   refine brT ?_
   refine no hbwY ?_
   unfold zbH
   rw [← hnn,decide_eq_false (by omega:¬ 1≤n),Bool.false_and,Bool.and_false]
  have h1:¬ (n:Int)<1:=of_decide_eq_false h1
  refine biE (fun h2=>?_) fun h2=>?_
  ·have h2:(6:Int)<(n:Int):=of_decide_eq_true h2
   refine brT ?_
   refine no hbwY ?_
   unfold zbH
   rw [← hnn,decide_eq_false (by omega:¬ n≤6),Bool.false_and,Bool.and_false,Bool.and_false]
  have h2:¬ (6:Int)<(n:Int):=of_decide_eq_false h2
  have hn1:decide (1≤n)=true:=decide_eq_true (by omega)
  have hn6:decide (n≤6)=true:=decide_eq_true (by omega)
  have fY:=zab hbY fx
  refine⟨_,zac (zaa fY) (i:=0) rfl,?_⟩
  refine Calls.mono (zgJ (locs:=n) (hvX.below hbY).ev (by omega) (by omega)) ?_
  rintro e Z ⟨rfl,hbZ⟩
  have hbwZ:=hbwY.trans (hbZ.mono hbwY.size)
  refine biE (fun h3=>?_) fun h3=>?_
  ·have h3:zbl x.ev n=false:=by
    have h3:(!zbl x.ev n)=true:=h3
    simpa using h3
   refine no hbwZ ?_
   unfold zbH
   rw [← hnn,h3,Bool.false_and,Bool.and_false,Bool.and_false,Bool.and_false]
  have h3:zbl x.ev n=true:=by
   have h3:(!zbl x.ev n)=false:=h3
   simpa using h3
  exact⟨(),(cvE rfl rfl),h3,by omega,zab hbZ fY,hbwZ⟩
 rintro _ Z ⟨h3,⟨h1,h2⟩,fZ,hbwZ⟩
 clear fx hbX hbY hbwY hvX
 have hn1:decide (1≤n)=true:=decide_eq_true h1
 have hn6:decide (n≤6)=true:=decide_eq_true h2
 have hright:zbH x=(za3 x&&(zbI x.po (poR x.ev)&&(zco x&&(zb7 x n&&zb1 x)))):=by
  unfold zbH
  rw [← hnn,hr0,hn1,hn6,h3];rfl
 have hrels:za3 x=(zcp x).all (okX x):=rfl
 refine⟨Unit,fun _=>⟨[(1,At0 L),(3,i64 (n:Nat))],[]⟩,fun _ U=>za3 x=true∧ExH U L x q c∧Below w.heap.size w U,?_,?_⟩
 ·refine⟨⟨by decide,by decide,rfl⟩,(List.range 6).map (fun i=>Value.pointer (some ⟨L,0+(1+49*i),none⟩)),rfl,?_⟩
  obtain⟨g,hg⟩:=nm (Z.heap.size)
  refine⟨Nat,fun k=>⟨[(1,At0 L),(3,i64 (n:Nat)),(32,.slice (some ⟨g,0,none⟩) 6 6),(33,i64 6),(34,i64 (k:Nat))],[]⟩,fun k U=>k≤6∧((zcp x).take k).all (okX x)=true∧U.heap[g]?=some (.cells ((List.range 6).map (fun i=>Value.pointer (some ⟨L,0+(1+49*i),none⟩))).toArray 75 (0,0))∧ExH U L x q c∧Below w.heap.size w U,fun k=>6-k,0,
   ⟨.cons rfl (.cons rfl (.cons (by rw [hg];rfl) (.cons rfl (.cons rfl .nil)))),rfl⟩,⟨Nat.zero_le _,rfl,by rw [hg];exact hnew Z _,hold _ fZ,hbwZ.alloc hbwZ.size _⟩,?_⟩
  clear hg fZ hbwZ
  rintro k U ⟨hk,hall,fg,fU,hbU⟩
  dsimp only
  refine biE (fun hc=>?_) fun hc=>?_
  ·have hc:(k:Int)<6:=of_decide_eq_true hc
   have hk6:k<6:=by omega
   obtain⟨r,hr⟩:=nm ((zcp x).getD k x.po)
   have hkl:k<(zcp x).length:=hk6
   have htk:(zcp x).take (k+1)=(zcp x).take k++[r]:=by
    rw [List.take_succ_eq_append_getElem hkl,hr,List.getD_eq_getElem?_getD,List.getElem?_eq_getElem hkl];rfl
   have hrw:WrdR r.to:=by rw [hr];exact hv.rel hk6
   have hcel:zau U ⟨L,0+(1+49*k),none⟩ (relC r):=by rw [hr];exact ze1 fU hk6
   have dU:Below U.heap.size U U.drew:=(Below.refl _ _).drew
   have hrm:r∈zcp x:=by
    rw [hr,List.getD_eq_getElem?_getD,List.getElem?_eq_getElem hkl]
    exact List.getElem_mem hkl
   have bad:∀ {Z:World},Below w.heap.size w Z→okX x r=false→(Ending.returned (.bool false)=Ending.returned (.bool (zbH x))∧Below w.heap.size w Z):=fun {Z} hb h=>no hb (by
    have:za3 x=false:=by
     rw [hrels,List.all_eq_false]
     exact⟨r,hrm,by rw [h];decide⟩
    rw [hright,this];rfl)
   refine⟨k,rfl,hk6,?_⟩
   refine⟨.pointer (some ⟨L,0+(1+49*k),none⟩),by
    have:=zac (zaa fg) (i:=k*1) (v := .pointer (some ⟨L,0+(1+49*k),none⟩)) (by
     rw [Nat.mul_one]
     exact znV L hk6)
    exact this,?_⟩
   refine DrawE.ord [] [0,1,2,3,4,5,6,7,8,9,10,11,12,13,14] (by kernel_rfl) ?_
   refine⟨i64 r.n,zac (zag dU hcel) (i:=0) rfl,?_⟩
   refine⟨_,zac (zaa (hdr fU)) (i:=0) rfl,?_⟩
   refine biE (fun h4=>?_) fun h4=>?_
   ·have h4:(!decide (r.n=(x.ev.length:Int)))=true:=h4
    have h4:¬ r.n=(x.ev.length:Int):=by simpa using h4
    refine brT ?_
    exact bad (hbU.trans (dU.mono hbU.size)) (by unfold okX;rw [decide_eq_false h4];rfl)
   have h4:(!decide (r.n=(x.ev.length:Int)))=false:=h4
   have h4:r.n=(x.ev.length:Int):=by simpa using h4
   refine⟨relC r,zaf _,zag dU hcel,hlt (hdr fU),?_⟩
   refine Calls.mono (zcU hrw) ?_
   rintro e V ⟨rfl,hbV⟩
   refine⟨hbV,?_⟩
   have hbV2:=hbU.trans ((dU.trans hbV).mono hbU.size)
   refine biE (fun h5=>?_) fun h5=>?_
   ·have h5:okR r=false:=by
     have h5:(!okR r)=true:=h5
     simpa using h5
    exact bad hbV2 (by unfold okX;rw [h5,Bool.and_false])
   have h5:okR r=true:=by
    have h5:(!okR r)=false:=h5
    simpa using h5
   refine⟨((k+1:Nat):Int),(zad (by omega)).trans (by omega),?_⟩
   refine⟨k+1,(cvE rfl rfl),⟨hk6,?_,zab (dU.trans hbV) fg,zab (dU.trans hbV) fU,hbV2⟩,by show 6-(k+1)<6-k;omega⟩
   rw [htk,List.all_append,hall]
   show (true&&(okX x r&&true))=true
   unfold okX
   rw [decide_eq_true h4,h5];rfl
  ·have hc:¬ (k:Int)<6:=of_decide_eq_false hc
   obtain rfl:k=6:=by omega
   exact⟨(),(cvE rfl rfl),hall,fU,hbU⟩
 rintro _ U ⟨hrr,fU,hbU⟩
 rw [hrr,Bool.true_and] at hright
 have hall:∀ r∈zcp x,r.n=x.ev.length∧okR r=true:=fun r hr=>by
  rw [hrels,List.all_eq_true] at hrr
  have:=hrr r hr
  unfold okX at this
  rw [Bool.and_eq_true,decide_eq_true_eq] at this
  exact this
 have hrf:=hall x.rf (by simp)
 have hrm:=hall x.rm (by simp)
 have hvU:=hv.below hbU
 have dU:Below U.heap.size U U.drew:=(Below.refl _ _).drew
 have hvD:=hvU.below dU
 have hbD:=hbU.trans (dU.mono hbU.size)
 refine DrawE.ord [] [0,1,2,3,4,5,6,7,8,9,10,11,12,13,14,15,16] (by kernel_rfl) ?_
 refine⟨relC x.po,zaf _,ze1 (hdr fU) (i:=0) (by decide),hlt (hdr fU),?_⟩
 refine⟨_,zac (zaa (hdr fU)) (i:=0) rfl,?_⟩
 refine Calls.mono (zdJ hvD.ev (by omega)) ?_
 rintro e V ⟨rfl,hbV⟩
 refine⟨hbV,?_⟩
 have hbV2:=hbD.trans (hbV.mono hbD.size)
 have fV:=zab hbV (hdr fU)
 have hvV:=hvD.below hbV
 refine⟨_,fun w=>zcY _ _ x.po (poR x.ev) w,?_⟩
 refine biE (fun h4=>?_) fun h4=>?_
 ·have h4:zbI x.po (poR x.ev)=true:=h4
  rw [h4,Bool.true_and] at hright
  refine Calls.mono (zkR fV hvV hrf.1 hrf.2 (hT.below hbV2)) ?_
  rintro e T ⟨rfl,hbT⟩
  refine⟨hbT,?_⟩
  have hbT2:=hbV2.trans (hbT.mono hbV2.size)
  refine biE (fun h5=>?_) fun h5=>?_
  ·have h5:zco x=true:=h5
   rw [h5,Bool.true_and] at hright
   refine Calls.mono (zlQ (locs:=n) (zab hbT fV) (hvV.below hbT) (by omega) (zmh h3 hnl (by omega)) (hT.below hbT2)) ?_
   rintro e R ⟨rfl,hbR⟩
   refine⟨hbR,?_⟩
   have hbR2:=hbT2.trans (hbR.mono hbT2.size)
   refine biE (fun h6=>?_) fun h6=>?_
   ·have h6:zb7 x n=true:=h6
    rw [h6,Bool.true_and] at hright
    refine Calls.mono (zj5 (zab hbR (zab hbT fV)) ((hvV.below hbT).below hbR) hrm.1 hrm.2 (hT.below hbR2)) ?_
    rintro e Q ⟨rfl,hbQ⟩
    exact⟨hbQ,rb hright.symm,hbR2.trans (hbQ.mono hbR2.size)⟩
   ·have h6:zb7 x n=false:=h6
    rw [h6,Bool.false_and] at hright
    exact⟨rb hright.symm,hbR2⟩
  ·have h5:zco x=false:=h5
   rw [h5,Bool.false_and] at hright
   refine brF ?_
   exact⟨rb hright.symm,hbT2⟩
 ·have h4:zbI x.po (poR x.ev)=false:=h4
  rw [h4,Bool.false_and] at hright
  refine brF ?_
  refine brF ?_
  exact⟨rb hright.symm,hbV2⟩
end
theorem zhd (k:Nat) (p:Nat→Bool):rowP (k+1) p=if p k=true then rowP k p|||2^k else rowP k p:=by
 unfold rowP
 rw [List.range_succ,List.foldl_append];rfl
theorem zhZ (p:Nat→Bool):∀ k,k≤64→rowP k p<2^64
 | 0,_=>by show 0<_;decide
 | k+1,h=>by
  rw [zhd]
  split
  ·exact Nat.or_lt_two_pow (zhZ p k (by omega)) (zaN (by omega))
  ·exact zhZ p k (by omega)
theorem zmF {n:Nat} {p:Nat→Nat→Bool} (hn:n≤64):WrdR (zh4 n p).to:=zlY fun i _ _=>zhZ _ n hn
section
variable {w:World}
def relE:Enc RelD:=⟨relC,49,zaf,by decide,fun a u hu=>List.all_eq_true.1 (zaJ a) u hu⟩
end
structure RelOk (n:Nat) (r:RelD):Prop where
 n:r.n=n
 ok:okR r=true
 w:WrdR r.to
section
variable {n:Nat} {r a b:RelD}
theorem RelOk.le (h:RelOk n r):n≤48:=by
 have:=(zcr h.ok).2.1
 have:=h.n
 omega
theorem RelOk.bit (h:RelOk n r) {i j:Nat} (hi:i<48) (hb:hasM r i j=true):i<n∧j<n:=by
 have:=zgn h.ok h.w hi hb
 have:=h.n
 omega
theorem zni (hn:r.n=n) (h48:n≤48) (h:∀ i j,i<48→hasM r i j=true→i<n∧j<n):okR r=true:=by
 unfold okR
 rw [Bool.and_eq_true,Bool.and_eq_true,decide_eq_true_eq,decide_eq_true_eq,List.all_eq_true]
 refine⟨by omega,by omega,fun i hi=>?_⟩
 have hi:=List.mem_range.1 hi
 unfold zdN
 rw [Bool.and_eq_true,Bool.or_eq_true,decide_eq_true_eq,decide_eq_true_eq,decide_eq_true_eq]
 refine⟨?_,?_⟩
 ·rw [zgA,zfG]
  apply Nat.eq_of_testBit_eq
  intro j
  rw [Nat.zero_testBit]
  by_cases hj:j<64
  ·rw [zdh (zc2 _) hj,zgS (by omega) (by omega) hj]
   cases hb:(r.to i).testBit j with
   | false=>rfl
   | true =>
    have:=(h i j hi hb).2
    rw [decide_eq_true (by omega)];rfl
  ·have:=Nat.testBit_lt_two_pow (Nat.lt_of_lt_of_le (Nat.lt_of_le_of_lt (show zbX (r.to i) (allN r.n)≤_ from Nat.and_le_right) (show 18446744073709551615-allN r.n<2^64 by omega)) (Nat.pow_le_pow_right (show 0<2 by decide) (show 64≤j by omega)))
   exact this
 ·by_cases hin:i<n
  ·exact .inl (by omega)
  ·refine .inr (Nat.eq_of_testBit_eq fun j=>?_)
   rw [Nat.zero_testBit]
   cases hb:(r.to i).testBit j with
   | false=>rfl
   | true=>exact absurd (h i j hi hb).1 hin
theorem RelOk.of (hn:r.n=n) (h48:n≤48) (h:∀ i j,i<48→hasM r i j=true→i<n∧j<n) (hw:WrdR r.to):RelOk n r:=⟨hn,zni hn h48 h,hw⟩
theorem zhY (p:Nat→Bool):∀ k j,(rowP k p).testBit j=(decide (j<k)&&p j)
 | 0,j=>by
  show (0:Nat).testBit j=_
  simp
 | k+1,j=>by
  rw [zhd]
  split
  ·rename_i h
   rw [Nat.testBit_or,zhY p k j,zcC]
   by_cases e:j=k
   ·subst e
    simp [h]
   ·rw [decide_eq_false e,Bool.or_false]
    congr 1
    exact decide_eq_decide.2 (by omega)
  ·rename_i h
   rw [zhY p k j]
   by_cases e:j=k
   ·subst e
    have:p j=false:=by simpa using h
    rw [this,Bool.and_false,Bool.and_false]
   ·congr 1
    exact decide_eq_decide.2 (by omega)
theorem zlZ {f:Nat→Nat} {i j:Nat}:hasM (zc8 n f) i j=(decide (i<n)&&(f i).testBit j):=by
 unfold hasM zc8
 dsimp only
 split
 ·rename_i h
  rw [decide_eq_true h];rfl
 ·rename_i h
  rw [decide_eq_false h,Nat.zero_testBit];rfl
theorem zmG {p:Nat→Nat→Bool} {i j:Nat}:hasM (zh4 n p) i j=(decide (i<n)&&(decide (j<n)&&p i j)):=by
 unfold zh4
 rw [zlZ,zhY]
theorem RelOk.pick (h:n≤48) (p:Nat→Nat→Bool):RelOk n (zh4 n p):=by
 refine .of rfl h (fun i j _ hb=>?_) (zmF (by omega))
 rw [zmG] at hb
 simp only [Bool.and_eq_true,decide_eq_true_eq] at hb
 exact⟨hb.1,hb.2.1⟩
theorem zhK (ha:RelOk n a) {i j:Nat} (hi:i<64):hasM (zaU a) i j=(decide (j<n)&&hasM a j i):=by
 unfold hasM
 rw [zjt ha.ok]
 have e1:decide ((j:Int)<a.n)=decide (j<n):=decide_eq_decide.2 (by have:=ha.n;omega)
 have e2:decide (i∈els (a.to j))=(a.to j).testBit i:=by
  cases h:(a.to j).testBit i with
  | true=>exact decide_eq_true (zdP.2 ⟨hi,h⟩)
  | false=>exact decide_eq_false fun hm=>by rw [(zdP.1 hm).2] at h;cases h
 rw [e1,e2]
theorem RelOk.back (ha:RelOk n a):RelOk n (zaU a):=by
 have h48:=ha.le
 have hbit:∀ i j,i<48→hasM (zaU a) i j=true→i<n∧j<n:=fun i j hi h=>by
  rw [zhK ha (by omega),Bool.and_eq_true,decide_eq_true_eq] at h
  exact⟨(ha.bit (by omega) h.2).2,h.1⟩
 refine .of ?_ h48 hbit fun i hi=>?_
 ·unfold zaU
  rw [if_pos ha.ok]
  exact ha.n
 ·apply Nat.lt_of_not_le
  intro hge
  obtain⟨j,hj1,hj2⟩:=Nat.exists_ge_and_testBit_of_ge_two_pow hge
  have:=(hbit i j hi hj2).2
  omega
end
structure WX (x:ExD):Prop where
 po:WrdR x.po.to
 rf:WrdR x.rf.to
 co:WrdR x.co.to
 dt:WrdR x.dt.to
 ct:WrdR x.ct.to
 rm:WrdR x.rm.to
structure XOk (x:ExD):Prop where
 n:x.ev.length≤48
 po:RelOk x.ev.length x.po
 rf:RelOk x.ev.length x.rf
 co:RelOk x.ev.length x.co
 dt:RelOk x.ev.length x.dt
 ct:RelOk x.ev.length x.ct
 rm:RelOk x.ev.length x.rm
 ev:zbl x.ev (zaD x.ev)=true
 poE:zbI x.po (poR x.ev)=true
 rfR:zco x=true
 coR:zb7 x (zaD x.ev)=true
 dep:zb1 x=true
section
variable {n:Nat} {a b:RelD} {x:ExD}
theorem zhg (h:zbI a b=true) {i j:Nat} (hi:i<48):hasM a i j=hasM b i j:=by
 unfold zbI at h
 rw [Bool.and_eq_true,List.all_eq_true] at h
 have:=of_decide_eq_true (h.2 i (List.mem_range.2 hi))
 unfold hasM
 rw [this]
theorem zma {t:Int}:∀ (es:List Ev) (j s k:Nat),(zh3 t j es s).testBit k=true↔s.testBit k=true∨∃ m,m<es.length∧k=j+m∧(es.getD m ev0).th=t
 | [],j,s,k=>by
  show s.testBit k=true↔_
  simp
 | e::es,j,s,k=>by
  show (zh3 t (j+1) es (if e.th=t then s|||2^j else s)).testBit k=true↔_
  rw [zma es]
  have hs:(if e.th=t then s|||2^j else s).testBit k=true↔s.testBit k=true∨(k=j∧e.th=t):=by
   split
   ·rename_i h
    rw [Nat.testBit_or,zcC,Bool.or_eq_true,decide_eq_true_eq]
    simp [h]
   ·rename_i h
    simp [h]
  rw [hs]
  constructor
  ·rintro ((h | ⟨h1,h2⟩) | ⟨m,h1,h2,h3⟩)
   ·exact .inl h
   ·exact .inr ⟨0,by simp,h1,h2⟩
   ·exact .inr ⟨m+1,by simpa using h1,by omega,by simpa using h3⟩
  ·rintro (h | ⟨m,h1,h2,h3⟩)
   ·exact .inl (.inl h)
   ·cases m with
    | zero=>exact .inl (.inr ⟨h2,h3⟩)
    | succ m=>exact .inr ⟨m,by simpa using h1,by omega,by simpa using h3⟩
theorem zfo {key:Nat→Nat} {y:Nat}:∀ r:List Nat,(zbk key r y).Perm (y::r)
 | [] => .refl _
 | z::r=>by
  unfold zbk
  split
  ·exact ((zfo r).cons z).trans (.swap y z r)
  ·exact .refl _
theorem zhA {key:Nat→Nat}:∀ (l acc:List Nat),(l++acc).Nodup→(l.foldl (fun acc x=>zbk key acc x) acc).Nodup
 | [],acc,h=>h
 | y::l,acc,h=>zhA l _ (by
   have p:(l++zbk key acc y).Perm (y::l++acc):=((zfo acc).append_left l).trans List.perm_middle
   exact p.nodup_iff.2 h)
theorem zjQ (l:Nat):(zaC x l).Nodup:=by
 unfold zaC zeY
 refine (List.reverse_perm _).nodup_iff.2 (zhA _ _ ?_)
 rw [List.append_nil]
 exact List.nodup_range.filter _
end
def zbA (r:RelD) (a:Nat):Nat:=cntQ (fun b=>hasQ r b a) r.n.toNat
def zbN (r:RelD) (a:Nat):Nat:=cntQ (fun b=>hasQ r a b) r.n.toNat
def poQ (x:ExD) (a b:Nat):Bool:=decide (0≤(evA x a).th)&&(decide ((evA x a).th=(evA x b).th)&&decide (a<b))
def zdF (x:ExD) (a b:Nat):Bool:=decide ((evA x a).l=(evA x b).l)
def zfb (x:ExD) (a b:Nat):Bool :=
 (hasQ x.po a b == poQ x a b)&&((!hasQ x.rf a b||(isW x a&&(isR x b&&(zdF x a b&&decide ((evA x a).v=(evA x b).v)))))&&((!hasQ x.co a b||(isW x a&&(isW x b&&zdF x a b))) &&
  ((!hasQ x.dt a b||(poQ x a b&&(isR x a&&isW x b)))&&((!hasQ x.ct a b||(poQ x a b&&isR x a))&&(!hasQ x.rm a b||(poQ x a b&&(isR x a&&(isW x b&&zdF x a b))))))))
def zdT (x:ExD) (a:Nat):Bool:=(!isR x a||decide (zbA x.rf a=1))&&(decide (zbN x.rm a≤1)&&decide (zbA x.rm a≤1))
theorem zez {f:Nat→Bool}:∀ {n:Nat},0<cntQ f n↔∃ i,i<n∧f i=true
 | 0=>⟨fun h=>absurd h (Nat.lt_irrefl _),fun ⟨i,h,_⟩=>absurd h (Nat.not_lt_zero _)⟩
 | n+1=>by
  rw [zaQ]
  constructor
  ·intro h
   by_cases hf:f n=true
   ·exact⟨n,Nat.lt_succ_self _,hf⟩
   ·rw [if_neg hf] at h
    obtain⟨i,h1,h2⟩:=zez.1 (show 0<cntQ f n by omega)
    exact⟨i,by omega,h2⟩
  ·rintro⟨i,h1,h2⟩
   by_cases hi:i=n
   ·subst hi
    rw [if_pos h2];omega
   ·have:=zez.2 ⟨i,(by omega:i<n),h2⟩
    omega
theorem zcK {f:Nat→Bool}:∀ {n:Nat},cntQ f n≤1↔∀ i j,i<n→j<n→f i=true→f j=true→i=j
 | 0=>⟨fun _ i j h=>absurd h (Nat.not_lt_zero _),fun _=>Nat.zero_le _⟩
 | n+1=>by
  rw [zaQ]
  constructor
  ·intro h i j hi hj fi fj
   by_cases hf:f n=true
   ·rw [if_pos hf] at h
    have h0:¬ 0<cntQ f n:=by omega
    have no:∀ k,k<n→f k=true→False:=fun k hk fk=>h0 (zez.2 ⟨k,hk,fk⟩)
    have e1:i=n:=by
     by_cases hi2:i<n
     ·exact (no i hi2 fi).elim
     ·omega
    have e2:j=n:=by
     by_cases hj2:j<n
     ·exact (no j hj2 fj).elim
     ·omega
    omega
   ·rw [if_neg hf] at h
    have e1:i<n:=by
     by_cases e:i=n
     ·rw [e] at fi;exact absurd fi hf
     ·omega
    have e2:j<n:=by
     by_cases e:j=n
     ·rw [e] at fj;exact absurd fj hf
     ·omega
    exact zcK.1 (by omega) i j e1 e2 fi fj
  ·intro h
   by_cases hf:f n=true
   ·rw [if_pos hf]
    have:cntQ f n=0:=zec fun k hk=>by
     cases hfk:f k with
     | false=>rfl
     | true=>have:=h k n (by omega) (by omega) hfk hf;omega
    omega
   ·rw [if_neg hf]
    have:=(zcK (n:=n)).2 fun i j hi hj fi fj=>h i j (by omega) (by omega) fi fj
    omega
theorem zoI {f:Nat→Bool} {n:Nat}:cntQ f n=1↔(∃ i,i<n∧f i=true)∧∀ i j,i<n→j<n→f i=true→f j=true→i=j:=by
 rw [← zez,← zcK]
 omega
section
variable {n:Nat} {r:RelD} {x:ExD}
theorem zfr (h:RelOk n r) {a b:Nat} (ha:a<48):hasQ r a b=hasM r a b:=by
 unfold hasQ
 rw [h.ok,Bool.true_and]
 cases hb:(r.to a).testBit b with
 | false=>rw [show hasM r a b=false from hb,Bool.and_false,Bool.and_false]
 | true =>
  have:=h.bit ha hb
  have:=h.n
  rw [show hasM r a b=true from hb,decide_eq_true (by omega),decide_eq_true (by omega)];rfl
theorem RelOk.nat (h:RelOk n r):r.n.toNat=n:=by have:=h.n;omega
theorem zi8 (h:RelOk n r) {a:Nat} (ha:a<n):zbA r a=1↔(∃ j,j<n∧hasM r j a=true)∧∀ i j,i<n→j<n→hasM r i a=true→hasM r j a=true→i=j:=by
 unfold zbA
 rw [zoI,h.nat]
 have h48:=h.le
 have e:∀ i,i<n→hasQ r i a=hasM r i a:=fun i hi=>zfr h (by omega)
 constructor
 ·rintro⟨⟨j,hj,h1⟩,h2⟩
  exact⟨⟨j,hj,by rw [← e j hj];exact h1⟩,fun i j hi hj fi fj=>h2 i j hi hj (by rw [e i hi];exact fi) (by rw [e j hj];exact fj)⟩
 ·rintro⟨⟨j,hj,h1⟩,h2⟩
  exact⟨⟨j,hj,by rw [e j hj];exact h1⟩,fun i j hi hj fi fj=>h2 i j hi hj (by rw [← e i hi];exact fi) (by rw [← e j hj];exact fj)⟩
theorem zlj (h:RelOk n r) {a:Nat} (ha:a<n):zbA r a≤1↔∀ i j,i<n→j<n→hasM r i a=true→hasM r j a=true→i=j:=by
 unfold zbA
 rw [zcK,h.nat]
 have h48:=h.le
 have e:∀ i,i<n→hasQ r i a=hasM r i a:=fun i hi=>zfr h (by omega)
 exact⟨fun h2 i j hi hj fi fj=>h2 i j hi hj (by rw [e i hi];exact fi) (by rw [e j hj];exact fj),fun h2 i j hi hj fi fj=>h2 i j hi hj (by rw [← e i hi];exact fi) (by rw [← e j hj];exact fj)⟩
theorem zlp (h:RelOk n r) {a:Nat} (ha:a<n):zbN r a≤1↔∀ i j,i<n→j<n→hasM r a i=true→hasM r a j=true→i=j:=by
 unfold zbN
 rw [zcK,h.nat]
 have h48:=h.le
 have e:∀ i,hasQ r a i=hasM r a i:=fun i=>zfr h (by omega)
 simp only [e]
theorem zoz {j:Nat} (h:j<64):ctz (2^j)=j:=by
 have h2:(2:Nat)^j<2^64:=Nat.pow_lt_pow_right (by decide) h
 have:=(zdP.1 (zgM (Nat.ne_of_gt (Nat.pow_pos (by decide))) h2)).2
 rw [zcC] at this
 exact of_decide_eq_true this
theorem zl4 {s:Nat} (h:s≠0):∃ j,s.testBit j=true:=by
 refine Classical.byContradiction fun hn=>h (Nat.eq_of_testBit_eq fun j=>?_)
 rw [Nat.zero_testBit]
 cases hb:s.testBit j with
 | false=>rfl
 | true=>exact (hn ⟨j,hb⟩).elim
theorem zpg (hrf:RelOk x.ev.length x.rf):zco x=true↔(∀ a b,a<x.ev.length→b<x.ev.length→hasM x.rf a b=true→isW x a=true∧isR x b=true∧(evA x a).l=(evA x b).l∧(evA x a).v=(evA x b).v) ∧
  ∀ b,b<x.ev.length→isR x b=true→(∃ j,j<x.ev.length∧hasM x.rf j b=true)∧∀ i j,i<x.ev.length→j<x.ev.length→hasM x.rf i b=true→hasM x.rf j b=true→i=j:=by
 have h48:=hrf.le
 have bk:∀ i,i<x.ev.length→∀ j,((zaU x.rf).to i).testBit j=(decide (j<x.ev.length)&&hasM x.rf j i):=fun i hi j=>zhK hrf (by omega)
 have w64:∀ i,i<x.ev.length→(zaU x.rf).to i<2^64:=fun i hi=>hrf.back.w i (by omega)
 unfold zco
 rw [List.all_eq_true]
 constructor
 ·intro h
  have one:∀ b,b<x.ev.length→∀ a,hasM x.rf a b=true→a<x.ev.length→(evA x b).k=1∧a=ctz ((zaU x.rf).to b)∧(evA x a).k=2∧(evA x a).l=(evA x b).l∧(evA x a).v=(evA x b).v:=fun b hb a hab ha=>by
   have h1:=h b (List.mem_range.2 hb)
   have hbit:((zaU x.rf).to b).testBit a=true:=by rw [bk b hb,hab,decide_eq_true ha];rfl
   have h0:¬ (zaU x.rf).to b=0:=fun e=>by rw [e,Nat.zero_testBit] at hbit;cases hbit
   unfold zdV at h1
   by_cases hk:(evA x b).k=1
   ·rw [if_pos hk,if_neg h0] at h1
    by_cases hs:(zaU x.rf).to b=2^ctz ((zaU x.rf).to b)
    ·rw [if_pos hs] at h1
     have hz:a=ctz ((zaU x.rf).to b):=by
      rw [hs,zcC] at hbit
      exact of_decide_eq_true hbit
     rw [← hz] at h1
     simp only [Bool.and_eq_true,decide_eq_true_eq] at h1
     exact⟨hk,hz,h1⟩
    ·rw [if_neg hs] at h1;cases h1
   ·rw [if_neg hk] at h1
    exact (h0 (of_decide_eq_true h1)).elim
  refine⟨fun a b ha hb hab=>?_,fun b hb hr=>⟨?_,fun i j hi hj h1 h2=>?_⟩⟩
  ·obtain⟨h1,_,h3,h4⟩:=one b hb a hab ha
   exact⟨decide_eq_true h3,decide_eq_true h1,h4⟩
  ·have h1:=h b (List.mem_range.2 hb)
   unfold zdV at h1
   rw [if_pos (of_decide_eq_true hr:(evA x b).k=1)] at h1
   by_cases h0:(zaU x.rf).to b=0
   ·rw [if_pos h0] at h1;cases h1
   ·obtain⟨j,hj⟩:=zl4 h0
    rw [bk b hb,Bool.and_eq_true,decide_eq_true_eq] at hj
    exact⟨j,hj⟩
  ·exact (one b hb i h1 hi).2.1.trans (one b hb j h2 hj).2.1.symm
 ·rintro⟨h1,h2⟩ b hb
  have hb:=List.mem_range.1 hb
  unfold zdV
  by_cases hk:(evA x b).k=1
  ·rw [if_pos hk]
   obtain⟨⟨j,hj,hj1⟩,hu⟩:=h2 b hb (decide_eq_true hk)
   have hs:(zaU x.rf).to b=2^j:=Nat.eq_of_testBit_eq fun i=>by
    rw [bk b hb,zcC]
    by_cases hij:i=j
    ·rw [hij,hj1,decide_eq_true hj,decide_eq_true rfl];rfl
    ·rw [decide_eq_false hij]
     cases hi:hasM x.rf i b with
     | false=>rw [Bool.and_false]
     | true =>
      by_cases hin:i<x.ev.length
      ·exact (hij (hu i j hin hj hi hj1)).elim
      ·rw [decide_eq_false hin];rfl
   have hz:ctz ((zaU x.rf).to b)=j:=by rw [hs];exact zoz (by omega)
   have h0:¬ (zaU x.rf).to b=0:=by rw [hs];exact Nat.ne_of_gt (Nat.pow_pos (by decide))
   rw [if_neg h0,hz,if_pos hs]
   obtain⟨a1,_,a3,a4⟩:=h1 j b hj hb hj1
   rw [decide_eq_true (of_decide_eq_true a1:(evA x j).k=2),decide_eq_true a3,decide_eq_true a4];rfl
  ·rw [if_neg hk]
   refine decide_eq_true (Nat.eq_of_testBit_eq fun j=>?_)
   rw [bk b hb,Nat.zero_testBit]
   by_cases hj:j<x.ev.length
   ·cases hjb:hasM x.rf j b with
    | false=>rw [Bool.and_false]
    | true=>exact (hk (of_decide_eq_true (h1 j b hj hb hjb).2.1)).elim
   ·rw [decide_eq_false hj];rfl
end
section
variable {x : ExD}
theorem zd6 {a b : Nat} (ha : a < 2 ^ 64) (hb : b < 2 ^ 64) : zb6 a b = 0 ↔ ∀ j, a.testBit j = true → b.testBit j = true := by
  rw [zgA]
  constructor
  · intro h j hj
    have hj64 : j < 64 := by
      refine Nat.lt_of_not_le fun hge => ?_
      rw [Nat.testBit_lt_two_pow (Nat.lt_of_lt_of_le ha (Nat.pow_le_pow_right (by decide) hge))] at hj
      cases hj
    have := zdh (a := a) hb hj64
    rw [h, Nat.zero_testBit, hj, Bool.true_and] at this
    cases hc : b.testBit j with
    | true => rfl
    | false => rw [hc] at this; cases this
  · intro h
    refine Nat.eq_of_testBit_eq fun j => ?_
    rw [Nat.zero_testBit]
    by_cases hj : j < 64
    · rw [zdh (a := a) hb hj]
      cases hc : a.testBit j with
      | false => rfl
      | true => rw [h j hc]; rfl
    · exact Nat.testBit_lt_two_pow (Nat.lt_of_lt_of_le (Nat.lt_of_le_of_lt (show zbX a b ≤ a from Nat.and_le_left) ha) (Nat.pow_le_pow_right (by decide) (by omega)))
theorem znz (x : ExD) : ∀ k j, ((List.range k).foldl (fun s i => if (evA x i).k = 2 then s ||| 2 ^ i else s) 0).testBit j = (decide (j < k) && isW x j)
  | 0, j => by show (0 : Nat).testBit j = _; simp
  | k + 1, j => by
    rw [List.range_succ, List.foldl_append, List.foldl_cons, List.foldl_nil]
    unfold isW at *
    split
    · rename_i h
      rw [Nat.testBit_or, znz x k j, zcC]
      by_cases e : j = k
      · subst e
        simp [h, isW]
      · rw [decide_eq_false e, Bool.or_false]
        unfold isW
        congr 1
        exact decide_eq_decide.2 (by omega)
    · rename_i h
      rw [znz x k j]
      unfold isW
      by_cases e : j = k
      · subst e
        rw [decide_eq_false h, Bool.and_false, Bool.and_false]
      · congr 1
        exact decide_eq_decide.2 (by omega)
theorem zko (x : ExD) (j : Nat) : (zch x).testBit j = (decide (j < x.ev.length) && isW x j) := znz x _ j
theorem zo3 (h : x.ev.length ≤ 48) : zch x < 2 ^ 64 := by
  refine Nat.lt_of_not_le fun hge => ?_
  obtain ⟨j, hj1, hj2⟩ := Nat.exists_ge_and_testBit_of_ge_two_pow hge
  rw [zko, Bool.and_eq_true, decide_eq_true_eq] at hj2
  omega
structure DepOne (x : ExD) (k : Nat) : Prop where
  w : ∀ j, hasM x.dt k j = true ∨ hasM x.rm k j = true → isW x j = true
  p : ∀ j, hasM x.dt k j = true ∨ hasM x.ct k j = true ∨ hasM x.rm k j = true → isR x k = true ∧ hasM x.po k j = true
  u : ∀ i j, hasM x.rm k i = true → hasM x.rm k j = true → i = j
  l : ∀ j, hasM x.rm k j = true → (evA x j).l = (evA x k).l
theorem zjj (h48 : x.ev.length ≤ 48) (hpo : RelOk x.ev.length x.po) (hdt : RelOk x.ev.length x.dt) (hct : RelOk x.ev.length x.ct) (hrm : RelOk x.ev.length x.rm) : ∀ (m i h : Nat), i + m = x.ev.length →
    (zeb x (zch x) i (x.ev.drop i) h = true ↔ (∀ k, i ≤ k → k < x.ev.length → DepOne x k) ∧ (∀ k j, i ≤ k → k < x.ev.length → hasM x.rm k j = true → h.testBit j = false) ∧ ∀ k k' j, i ≤ k → k < k' → k' < x.ev.length → hasM x.rm k j = true → hasM x.rm k' j = true → False)
  | 0, i, h, hi => by
    rw [List.drop_of_length_le (by omega)]
    exact ⟨fun _ => ⟨fun k h1 h2 => by omega, fun k j h1 h2 => by omega, fun k k' j h1 h2 h3 => by omega⟩, fun _ => rfl⟩
  | m + 1, i, h, hi => by
    have hil : i < x.ev.length := by omega
    have hd : x.ev.drop i = evA x i :: x.ev.drop (i + 1) := by
      unfold evA
      rw [List.getD_eq_getElem?_getD, List.getElem?_eq_getElem hil, ← List.getElem_cons_drop hil]; rfl
    rw [hd]
    obtain ⟨d, hdd⟩ : ∃ d, d = x.dt.to i := ⟨_, rfl⟩
    obtain ⟨c, hcc⟩ : ∃ c, c = x.ct.to i := ⟨_, rfl⟩
    obtain ⟨r, hrr⟩ : ∃ r, r = x.rm.to i := ⟨_, rfl⟩
    have bd : ∀ j, d.testBit j = hasM x.dt i j := fun j => by rw [hdd]; rfl
    have bc : ∀ j, c.testBit j = hasM x.ct i j := fun j => by rw [hcc]; rfl
    have br : ∀ j, r.testBit j = hasM x.rm i j := fun j => by rw [hrr]; rfl
    have d64 : d < 2 ^ 64 := by rw [hdd]; exact hdt.w i (by omega)
    have c64 : c < 2 ^ 64 := by rw [hcc]; exact hct.w i (by omega)
    have r64 : r < 2 ^ 64 := by rw [hrr]; exact hrm.w i (by omega)
    have hstep : zeb x (zch x) i (evA x i :: x.ev.drop (i + 1)) h = if d ||| c ||| r = 0 then zeb x (zch x) (i + 1) (x.ev.drop (i + 1)) h
        else if (evA x i).k = 1 ∧ zb6 (d ||| r) (zch x) = 0 ∧ zb6 (d ||| c ||| r) (x.po.to i) = 0 then
          (if r = 0 then zeb x (zch x) (i + 1) (x.ev.drop (i + 1)) h
           else if r = 2 ^ ctz r ∧ h.testBit (ctz r) = false ∧ (evA x (ctz r)).l = (evA x i).l then zeb x (zch x) (i + 1) (x.ev.drop (i + 1)) (h ||| r) else false)
        else false := by rw [hdd, hcc, hrr]; rfl
    rw [hstep]
    have sp : ∀ (P : Nat → Prop), (∀ k, i ≤ k → k < x.ev.length → P k) ↔ P i ∧ ∀ k, i + 1 ≤ k → k < x.ev.length → P k := fun P =>
      ⟨fun h => ⟨h i (Nat.le_refl _) hil, fun k h1 h2 => h k (by omega) h2⟩, fun h k h1 h2 => by
        by_cases hk : k = i
        · rw [hk]; exact h.1
        · exact h.2 k (by omega) h2⟩
    have one : DepOne x i ↔ (d ||| c ||| r = 0 ∨ ((evA x i).k = 1 ∧ zb6 (d ||| r) (zch x) = 0 ∧ zb6 (d ||| c ||| r) (x.po.to i) = 0)) ∧ (∀ a b, r.testBit a = true → r.testBit b = true → a = b) ∧ (∀ j, r.testBit j = true → (evA x j).l = (evA x i).l) := by
      have inl : ∀ j, hasM x.dt i j = true ∨ hasM x.rm i j = true → j < x.ev.length := fun j hj => by
        rcases hj with hj | hj
        · exact (hdt.bit (by omega) hj).2
        · exact (hrm.bit (by omega) hj).2
      constructor
      · rintro ⟨w, p, u, l⟩
        refine ⟨?_, fun a b ha hb => u a b (by rw [← br]; exact ha) (by rw [← br]; exact hb), fun j hj => l j (by rw [← br]; exact hj)⟩
        by_cases h0 : d ||| c ||| r = 0
        · exact .inl h0
        · obtain ⟨j, hj⟩ := zl4 h0
          have hor : ∀ j, (d ||| c ||| r).testBit j = true → hasM x.dt i j = true ∨ hasM x.ct i j = true ∨ hasM x.rm i j = true := fun j hj => by
            rw [Nat.testBit_or, Nat.testBit_or, bd, bc, br, Bool.or_eq_true, Bool.or_eq_true] at hj
            rcases hj with (hj | hj) | hj
            · exact .inl hj
            · exact .inr (.inl hj)
            · exact .inr (.inr hj)
          refine .inr ⟨of_decide_eq_true (p j (hor j hj)).1, (zd6 (Nat.or_lt_two_pow d64 r64) (zo3 h48)).2 fun j hj => ?_, (zd6 (Nat.or_lt_two_pow (Nat.or_lt_two_pow d64 c64) r64) (hpo.w i (by omega))).2 fun j hj => (p j (hor j hj)).2⟩
          rw [Nat.testBit_or, bd, br, Bool.or_eq_true] at hj
          rw [zko, w j hj, decide_eq_true (inl j hj)]; rfl
      · rintro ⟨h1, u, l⟩
        have bits : ∀ j, hasM x.dt i j = true ∨ hasM x.ct i j = true ∨ hasM x.rm i j = true → (d ||| c ||| r).testBit j = true := fun j hj => by
          rw [Nat.testBit_or, Nat.testBit_or, bd, bc, br]
          rcases hj with hj | hj | hj <;> rw [hj] <;> simp
        have nz : ∀ j, hasM x.dt i j = true ∨ hasM x.ct i j = true ∨ hasM x.rm i j = true → (evA x i).k = 1 ∧ zb6 (d ||| r) (zch x) = 0 ∧ zb6 (d ||| c ||| r) (x.po.to i) = 0 := fun j hj => by
          rcases h1 with h1 | h1
          · have := bits j hj
            rw [h1, Nat.zero_testBit] at this
            cases this
          · exact h1
        refine ⟨fun j hj => ?_, fun j hj => ?_, fun a b ha hb => u a b (by rw [br]; exact ha) (by rw [br]; exact hb), fun j hj => l j (by rw [br]; exact hj)⟩
        · have h2 := (nz j (by rcases hj with hj | hj; exact .inl hj; exact .inr (.inr hj))).2.1
          have h3 := (zd6 (Nat.or_lt_two_pow d64 r64) (zo3 h48)).1 h2 j (by
            rw [Nat.testBit_or, bd, br]
            rcases hj with hj | hj <;> rw [hj] <;> simp)
          rw [zko, Bool.and_eq_true] at h3
          exact h3.2
        · have h2 := nz j hj
          exact ⟨decide_eq_true h2.1, (zd6 (Nat.or_lt_two_pow (Nat.or_lt_two_pow d64 c64) r64) (hpo.w i (by omega))).1 h2.2.2 j (bits j hj)⟩
    have hr0 : d ||| c ||| r = 0 → r = 0 := fun h0 => Nat.eq_of_testBit_eq fun j => by
      have := congrArg (fun s => s.testBit j) h0
      simp only [Nat.testBit_or, Nat.zero_testBit, Bool.or_eq_false_iff] at this
      rw [Nat.zero_testBit]; exact this.2
    have rest : ∀ h2, (∀ k j, i + 1 ≤ k → k < x.ev.length → hasM x.rm k j = true → (h2.testBit j = false ↔ h.testBit j = false ∧ r.testBit j = false)) → (∀ j, r.testBit j = true → h.testBit j = false) → DepOne x i →
        ((zeb x (zch x) (i + 1) (x.ev.drop (i + 1)) h2 = true) ↔ (∀ k, i ≤ k → k < x.ev.length → DepOne x k) ∧ (∀ k j, i ≤ k → k < x.ev.length → hasM x.rm k j = true → h.testBit j = false) ∧ ∀ k k' j, i ≤ k → k < k' → k' < x.ev.length → hasM x.rm k j = true → hasM x.rm k' j = true → False) := fun h2 hh hf hi1 => by
      rw [zjj h48 hpo hdt hct hrm m (i + 1) h2 (by omega), sp (DepOne x)]
      constructor
      · rintro ⟨a1, a2, a3⟩
        refine ⟨⟨hi1, a1⟩, fun k j k1 k2 k3 => ?_, fun k k' j k1 k2 k3 k4 k5 => ?_⟩
        · by_cases hk : k = i
          · subst hk
            exact hf j (by rw [br]; exact k3)
          · exact ((hh k j (by omega) k2 k3).1 (a2 k j (by omega) k2 k3)).1
        · by_cases hk : k = i
          · subst hk
            have := ((hh k' j (by omega) k3 k5).1 (a2 k' j (by omega) k3 k5)).2
            rw [br, k4] at this
            cases this
          · exact a3 k k' j (by omega) k2 k3 k4 k5
      · rintro ⟨a1, a2, a3⟩
        refine ⟨a1.2, fun k j k1 k2 k3 => (hh k j k1 k2 k3).2 ⟨a2 k j (by omega) k2 k3, ?_⟩, fun k k' j k1 k2 k3 k4 k5 => a3 k k' j (by omega) k2 k3 k4 k5⟩
        cases hb : r.testBit j with
        | false => rfl
        | true => exact (a3 i k j (Nat.le_refl _) (by omega) k2 (by rw [← br]; exact hb) k3).elim
    by_cases h0 : d ||| c ||| r = 0
    · rw [if_pos h0]
      have r0 := hr0 h0
      refine rest h (fun k j _ _ _ => ?_) (fun j hj => ?_) (one.2 ⟨.inl h0, fun a b ha => ?_, fun j hj => ?_⟩)
      · rw [r0, Nat.zero_testBit]; simp
      · rw [r0, Nat.zero_testBit] at hj; cases hj
      · rw [r0, Nat.zero_testBit] at ha; cases ha
      · rw [r0, Nat.zero_testBit] at hj; cases hj
    rw [if_neg h0]
    by_cases hc2 : (evA x i).k = 1 ∧ zb6 (d ||| r) (zch x) = 0 ∧ zb6 (d ||| c ||| r) (x.po.to i) = 0
    · rw [if_pos hc2]
      by_cases r0 : r = 0
      · rw [if_pos r0]
        refine rest h (fun k j _ _ _ => ?_) (fun j hj => ?_) (one.2 ⟨.inr hc2, fun a b ha => ?_, fun j hj => ?_⟩)
        · rw [r0, Nat.zero_testBit]; simp
        · rw [r0, Nat.zero_testBit] at hj; cases hj
        · rw [r0, Nat.zero_testBit] at ha; cases ha
        · rw [r0, Nat.zero_testBit] at hj; cases hj
      · rw [if_neg r0]
        by_cases hc3 : r = 2 ^ ctz r ∧ h.testBit (ctz r) = false ∧ (evA x (ctz r)).l = (evA x i).l
        · rw [if_pos hc3]
          have bz : ∀ j, r.testBit j = true → j = ctz r := fun j hj => by
            rw [hc3.1, zcC] at hj
            exact of_decide_eq_true hj
          refine rest (h ||| r) (fun k j _ _ _ => ?_) (fun j hj => ?_) (one.2 ⟨.inr hc2, fun a b ha hb => (bz a ha).trans (bz b hb).symm, fun j hj => ?_⟩)
          · rw [Nat.testBit_or, Bool.or_eq_false_iff]
          · rw [bz j hj]; exact hc3.2.1
          · rw [bz j hj]; exact hc3.2.2
        · rw [if_neg hc3]
          refine ⟨fun h => (by cases h), fun hall => ?_⟩
          have ho := one.1 (hall.1 i (Nat.le_refl _) hil)
          obtain ⟨j, hj⟩ := zl4 r0
          have hz := (zdP.1 (zgM r0 r64)).2
          refine (hc3 ⟨Nat.eq_of_testBit_eq fun a => ?_, hall.2.1 i _ (Nat.le_refl _) hil (by rw [← br]; exact hz), ho.2.2 _ hz⟩).elim
          rw [zcC]
          by_cases ha : a = ctz r
          · rw [ha, hz, decide_eq_true rfl]
          · rw [decide_eq_false ha]
            cases hb : r.testBit a with
            | false => rfl
            | true => exact (ha (ho.2.1 a _ hb hz)).elim
    · rw [if_neg hc2]
      refine ⟨fun h => (by cases h), fun hall => ?_⟩
      rcases (one.1 (hall.1 i (Nat.le_refl _) hil)).1 with h1 | h1
      · exact (h0 h1).elim
      · exact (hc2 h1).elim
end
def twl (s:List Nat) (i:Nat):List Nat:=s.takeWhile fun y => !decide (y=i)
theorem zb9 (a:Nat) (s:List Nat) (i:Nat):twl (a::s) i=if a=i then [] else a::twl s i:=by
 unfold twl
 rw [List.takeWhile_cons]
 by_cases h:a=i
 ·rw [if_pos h,if_neg (by simp [h])]
 ·rw [if_neg h,if_pos (by simp [h])]
theorem zbS:∀ {s:List Nat} {i j:Nat},j∈twl s i→j∈s∧j≠i
 | [],i,j,h=>by cases h
 | a::s,i,j,h=>by
  rw [zb9] at h
  by_cases ha:a=i
  ·rw [if_pos ha] at h;cases h
  ·rw [if_neg ha] at h
   rcases List.mem_cons.1 h with rfl | h
   ·exact⟨List.mem_cons_self,ha⟩
   ·exact⟨List.mem_cons_of_mem _ (zbS h).1,(zbS h).2⟩
theorem zcF:∀ {s:List Nat} {i j:Nat},i∈s→j∈s→i≠j→(j∈twl s i↔¬ i∈twl s j)
 | [],i,j,h,_,_=>by cases h
 | a::s,i,j,hi,hj,hij=>by
  rw [zb9,zb9]
  by_cases h1:a=i
  ·rw [if_pos h1,if_neg (fun h=>hij (h1.symm.trans h))]
   exact⟨fun h=>(by cases h),fun h=>(h (by rw [h1];exact List.mem_cons_self)).elim⟩
  ·by_cases h2:a=j
   ·rw [if_neg h1,if_pos h2]
    exact⟨fun _ h=>(by cases h),fun _=>by rw [h2];exact List.mem_cons_self⟩
   ·rw [if_neg h1,if_neg h2,List.mem_cons,List.mem_cons]
    have hi2:i∈s:=by rcases List.mem_cons.1 hi with h | h;exact (h1 h.symm).elim;exact h
    have hj2:j∈s:=by rcases List.mem_cons.1 hj with h | h;exact (h2 h.symm).elim;exact h
    have:=zcF hi2 hj2 hij
    constructor
    ·rintro (h | h) (h' | h')
     ·exact h2 h.symm
     ·exact h2 h.symm
     ·exact h1 h'.symm
     ·exact this.1 h h'
    ·intro h
     exact .inr (this.2 fun h'=>h (.inr h'))
theorem zgY:∀ {s:List Nat} {i j k:Nat},j∈twl s i→k∈twl s j→k∈twl s i
 | [],i,j,k,h,_=>by cases h
 | a::s,i,j,k,h1,h2=>by
  rw [zb9] at h1 h2 ⊢
  by_cases ha:a=i
  ·rw [if_pos ha] at h1;cases h1
  ·rw [if_neg ha] at h1 ⊢
   by_cases hb:a=j
   ·rw [if_pos hb] at h2;cases h2
   ·rw [if_neg hb] at h2
    rcases List.mem_cons.1 h2 with rfl | h2
    ·exact List.mem_cons_self
    ·rcases List.mem_cons.1 h1 with h1 | h1
     ·exact (hb h1.symm).elim
     ·exact List.mem_cons_of_mem _ (zgY h1 h2)
theorem ziI {z:Nat}:∀ {A:List Nat},z ∉ A→twl (A++[z]) z=A
 | [],_=>by rw [List.nil_append,zb9,if_pos rfl]
 | a::A,h=>by
  rw [List.cons_append,zb9,if_neg (fun e=>h (by rw [e];exact List.mem_cons_self)),ziI fun h2=>h (List.mem_cons_of_mem _ h2)]
theorem zhT {R:Nat→Nat→Prop}:∀ {s:List Nat} {i j:Nat},s.Pairwise R→i∈s→j∈twl s i→R j i
 | [],i,j,_,h,_=>by cases h
 | a::s,i,j,hp,hi,hj=>by
  rw [zb9] at hj
  by_cases ha:a=i
  ·rw [if_pos ha] at hj;cases hj
  ·rw [if_neg ha] at hj
   have hi2:i∈s:=by rcases List.mem_cons.1 hi with h | h;exact (ha h.symm).elim;exact h
   rcases List.mem_cons.1 hj with rfl | hj
   ·exact (List.pairwise_cons.1 hp).1 i hi2
   ·exact zhT (List.pairwise_cons.1 hp).2 hi2 hj
theorem zfZ:∀ (l:List Nat) (f:Nat→Nat) (b:Nat),l.Nodup→∀ i j,(zig l f b i).testBit j=if i∈l then (b.testBit j||decide (j∈twl l i)) else (f i).testBit j
 | [],f,b,_,i,j=>by rw [if_neg List.not_mem_nil];rfl
 | a::l,f,b,hn,i,j=>by
  have hn2:=List.nodup_cons.1 hn
  show (zig l (upd f a b) (b|||2^a) i).testBit j=_
  rw [zfZ l _ _ hn2.2,zb9]
  by_cases hia:i=a
  ·subst hia
   rw [if_neg hn2.1,if_pos List.mem_cons_self,za1,if_pos rfl]
   simp
  ·rw [if_neg (show ¬ a=i from fun e=>hia e.symm)]
   by_cases hi:i∈l
   ·rw [if_pos hi,if_pos (List.mem_cons_of_mem _ hi),Nat.testBit_or,zcC,Bool.or_assoc]
    congr 1
    rw [Bool.eq_iff_iff,Bool.or_eq_true,decide_eq_true_eq,decide_eq_true_eq,decide_eq_true_eq,List.mem_cons]
   ·rw [if_neg hi,if_neg (fun h=>by rcases List.mem_cons.1 h with h | h;exact hia h;exact hi h),zck _ _ hia]
theorem zf1 {key:Nat→Nat} {y:Nat}:∀ {r:List Nat},r.Pairwise (fun a b=>key a≤key b)→(zbk key r y).Pairwise (fun a b=>key a≤key b)
 | [],_=>List.pairwise_singleton _ _
 | z::r,h=>by
  have h2:=List.pairwise_cons.1 h
  unfold zbk
  split
  ·rename_i hlt
   refine List.pairwise_cons.2 ⟨fun a ha=>?_,zf1 h2.2⟩
   rcases (zes r).1 ha with rfl | ha
   ·omega
   ·exact h2.1 a ha
  ·rename_i hlt
   refine List.pairwise_cons.2 ⟨fun a ha=>?_,h⟩
   rcases List.mem_cons.1 ha with rfl | ha
   ·omega
   ·have:=h2.1 a ha;omega
theorem zkF {key:Nat→Nat}:∀ (l acc:List Nat),acc.Pairwise (fun a b=>key a≤key b)→(l.foldl (fun acc x=>zbk key acc x) acc).Pairwise (fun a b=>key a≤key b)
 | [],_,h=>h
 | y::l,acc,h=>zkF l _ (zf1 h)
theorem zg4 (key:Nat→Nat) (l:List Nat):(zda key l).Pairwise (fun a b=>key a≤key b):=zkF l [] .nil
theorem zaB {key:Nat→Nat} {l:List Nat} {a:Nat}:a∈zda key l↔a∈l:=by
 have:a∈(zda key l).reverse↔a∈l:=zg5
 rwa [List.mem_reverse] at this
theorem ze7 {key:Nat→Nat}:∀ {s:List Nat},s.Pairwise (fun a b=>key a≤key b)→s.Nodup→(∀ a b,a∈s→b∈s→a≠b→key a≠key b)→s.Pairwise (fun a b=>key a<key b)
 | [],_,_,_ => .nil
 | a::s,h,hn,hi=>by
  have h2:=List.pairwise_cons.1 h
  have hn2:=List.nodup_cons.1 hn
  refine List.pairwise_cons.2 ⟨fun b hb=>?_,ze7 h2.2 hn2.2 fun c d hc hd=>hi c d (List.mem_cons_of_mem _ hc) (List.mem_cons_of_mem _ hd)⟩
  have h3:=h2.1 b hb
  have h4:=hi a b List.mem_cons_self (List.mem_cons_of_mem _ hb) (fun e=>hn2.1 (by rw [e];exact hb))
  omega
theorem zky {key:Nat→Nat} {s:List Nat} {i j:Nat} (hp:s.Pairwise (fun a b=>key a<key b)) (hi:i∈s) (hj:j∈s):j∈twl s i↔key j<key i:=by
 constructor
 ·exact zhT hp hi
 ·intro h
  refine (zcF hi hj (fun e=>by rw [e] at h;omega)).2 fun h2=>?_
  have:=zhT hp hj h2
  omega
theorem zfB {f g:Nat→Bool}:∀ {n:Nat},(∀ i,i<n→f i=g i)→cntQ f n=cntQ g n
 | 0,_=>rfl
 | n+1,h=>by rw [zaQ,zaQ,h n (Nat.lt_succ_self _),zfB fun i hi=>h i (by omega)]
theorem zgO {f g:Nat→Bool}:∀ {n:Nat},(∀ i,i<n→f i=true→g i=true→False)→cntQ f n+cntQ g n=cntQ (fun i=>f i||g i) n
 | 0,_=>rfl
 | n+1,h=>by
  have ih:=zgO (f:=f) (g:=g) (n:=n) fun i hi=>h i (by omega)
  have:=h n (Nat.lt_succ_self _)
  rw [zaQ,zaQ,zaQ,← ih]
  cases hf:f n <;> cases hg:g n <;> simp [hf,hg] at this ⊢ <;> omega
theorem zlS {a:Nat}:∀ {n:Nat},a<n→cntQ (fun b=>decide (b=a)) n=1
 | 0,h=>absurd h (Nat.not_lt_zero _)
 | n+1,h=>by
  rw [zaQ]
  by_cases e:n=a
  ·subst e
   rw [if_pos (decide_eq_true rfl),zec fun k hk=>decide_eq_false (by omega)]
  ·rw [if_neg (by simp [e]),zlS (by omega)]
theorem zjn {f g:Nat→Bool}:∀ {n:Nat},(∀ i,i<n→f i=true→g i=true)→cntQ f n≤cntQ g n
 | 0,_=>Nat.le_refl _
 | n+1,h=>by
  have ih:=zjn (f:=f) (g:=g) (n:=n) fun i hi=>h i (by omega)
  have:=h n (Nat.lt_succ_self _)
  rw [zaQ,zaQ]
  cases hf:f n <;> cases hg:g n <;> simp [hf,hg] at this ⊢ <;> omega
theorem zj7 {f g:Nat→Bool} {n j:Nat} (h:∀ i,i<n→f i=true→g i=true) (hj:j<n) (h1:f j=false) (h2:g j=true):cntQ f n<cntQ g n:=by
 have e:=zgO (f:=f) (g:=fun b=>decide (b=j)) (n:=n) fun i hi hf hd=>by
  have:i=j:=of_decide_eq_true hd
  rw [this,h1] at hf;cases hf
 rw [zlS hj] at e
 have:=zjn (f:=fun i=>f i||decide (i=j)) (g:=g) (n:=n) fun i hi hor=>by
  rw [Bool.or_eq_true,decide_eq_true_eq] at hor
  rcases hor with h3 | h3
  ·exact h i hi h3
  ·rw [h3];exact h2
 omega
theorem zi6 (s:Nat):lenS s=cntQ (fun j=>s.testBit j) 64:=rfl
inductive TC (R:Nat→Nat→Prop):Nat→Nat→Prop
 | one {a b:Nat} (h:R a b):TC R a b
 | step {a b c:Nat} (h:TC R a b) (k:R b c):TC R a c
theorem TC.first {R:Nat→Nat→Prop} {a b c:Nat} (h:R a b) (k:TC R b c):TC R a c:=by
 induction k with
 | one k=>exact .step (.one h) k
 | step _ k2 ih=>exact .step ih k2
theorem TC.trans {R:Nat→Nat→Prop} {a b c:Nat} (h:TC R a b) (k:TC R b c):TC R a c:=by
 induction k with
 | one k=>exact .step h k
 | step _ k2 ih=>exact .step ih k2
def zbM (x:ExD) (a loc:Nat):Bool:=isW x a&&decide ((evA x a).l.toNat=loc)
def zjW (x:ExD) (loc:Nat):Nat:=cntQ (fun a=>zbM x a loc) x.ev.length
def zgl (x:ExD) (loc a:Nat):Bool :=
 (decide (zbA x.co a+zbN x.co a+1=zjW x loc)&&(!hasQ x.co a a&&((!decide (a=loc)||decide (zbA x.co a=0))&&(!decide (zbN x.co a=0)||decide (x.mem loc=(evA x a).v))))) &&
  (List.range x.ev.length).all fun b=>(!(!decide (b=a)&&zbM x b loc) || !(hasQ x.co a b == hasQ x.co b a))&&(List.range x.ev.length).all fun c => !(hasQ x.co a b&&hasQ x.co b c)||hasQ x.co a c
def ze6 (x:ExD) (locs:Nat):Bool:=(List.range 6).all fun loc=>if locs≤loc then decide (x.mem loc=0) else (List.range x.ev.length).all fun a => !zbM x a loc||zgl x loc a
section
variable {x:ExD}
abbrev sG (x:ExD) (l:Nat):List Nat:=zda (keyC x) (zaW x l)
theorem zgi (l:Nat):(sG x l).Nodup:=by
 have:=zjQ (x:=x) l
 exact (List.reverse_perm _).nodup_iff.1 this
theorem zdW (l:Nat):zaC x l=(sG x l).reverse:=rfl
theorem zbz {l a:Nat}:a∈zaW x l↔a<x.ev.length∧isW x a=true∧(evA x a).l.toNat=l:=by
 unfold zaW isW
 rw [List.mem_filter,List.mem_range,Bool.and_eq_true,decide_eq_true_eq,decide_eq_true_eq]
def resC (x:ExD):Nat→Nat→RelD×(Nat→UInt8)→RelD×(Nat→UInt8)
 | 0,_,p=>p
 | m+1,l,p=>resC x m (l+1) (zcD (zaC x l) p.1,upd p.2 l (zeK x.ev (zaC x l)))
theorem zgN:∀ (m l:Nat) (p q:RelD×(Nat→UInt8)),coGo x m l p=some q↔(∀ k,l≤k→k<l+m→(zaC x k).headD 48=k)∧q=resC x m l p
 | 0,l,p,q=>⟨fun h=>⟨fun k h1 h2=>by omega,(Option.some.inj h).symm⟩,fun h=>by rw [h.2];rfl⟩
 | m+1,l,p,q=>by
  unfold coGo
  by_cases hd:(zaC x l).headD 48=l
  ·rw [if_pos hd,zgN m (l+1)]
   refine⟨fun h=>⟨fun k h1 h2=>?_,h.2⟩,fun h=>⟨fun k h1 h2=>h.1 k (by omega) (by omega),h.2⟩⟩
   by_cases hk:k=l
   ·rw [hk];exact hd
   ·exact h.1 k (by omega) (by omega)
  ·rw [if_neg hd]
   exact⟨fun h=>(by cases h),fun h=>(hd (h.1 l (Nat.le_refl _) (by omega))).elim⟩
theorem zmQ {l:Nat} {r:RelD} {i j:Nat}:hasM (zcD (zaC x l) r) i j=if i∈zaW x l then decide (j∈twl (sG x l) i) else hasM r i j:=by
 unfold hasM zcD
 rw [zdW,List.reverse_reverse]
 show (zig (sG x l) r.to 0 i).testBit j=_
 rw [zfZ _ _ _ (zgi l),Nat.zero_testBit,Bool.false_or]
 by_cases h:i∈zaW x l
 ·rw [if_pos h,if_pos (zaB.2 h)]
 ·rw [if_neg h,if_neg (fun h2=>h (zaB.1 h2))]
theorem ziP:∀ (m l:Nat) (p:RelD×(Nat→UInt8)),(resC x m l p).1.n=p.1.n∧(∀ i j,hasM (resC x m l p).1 i j=true↔(∃ k,l≤k∧k<l+m∧i∈zaW x k∧j∈twl (sG x k) i)∨((∀ k,l≤k→k<l+m→i ∉ zaW x k)∧hasM p.1 i j=true)) ∧
  ∀ k,(resC x m l p).2 k=if l≤k∧k<l+m then zeK x.ev (zaC x k) else p.2 k
 | 0,l,p=>⟨rfl,fun i j=>⟨fun h => .inr ⟨fun k h1 h2=>by omega,h⟩,fun h=>by
   rcases h with ⟨k,h1,h2,_⟩ | h
   ·omega
   ·exact h.2⟩,fun k=>(if_neg (by omega)).symm⟩
 | m+1,l,p=>by
  obtain⟨h1,h2,h3⟩:=ziP m (l+1) (zcD (zaC x l) p.1,upd p.2 l (zeK x.ev (zaC x l)))
  refine⟨h1,fun i j=>?_,fun k=>?_⟩
  ·show hasM (resC x m (l+1) _).1 i j=true↔_
   rw [h2,zmQ]
   have uniq:∀ {k k'},i∈zaW x k→i∈zaW x k'→k=k':=fun a b=>(zbz.1 a).2.2.symm.trans (zbz.1 b).2.2
   constructor
   ·rintro (⟨k,a1,a2,a3,a4⟩ | ⟨a1,a2⟩)
    ·exact .inl ⟨k,by omega,by omega,a3,a4⟩
    ·by_cases hi:i∈zaW x l
     ·rw [if_pos hi] at a2
      exact .inl ⟨l,Nat.le_refl _,by omega,hi,of_decide_eq_true a2⟩
     ·rw [if_neg hi] at a2
      refine .inr ⟨fun k b1 b2=>?_,a2⟩
      by_cases hk:k=l
      ·rw [hk];exact hi
      ·exact a1 k (by omega) (by omega)
   ·rintro (⟨k,a1,a2,a3,a4⟩ | ⟨a1,a2⟩)
    ·by_cases hk:k=l
     ·subst hk
      refine .inr ⟨fun k' b1 b2 b3=>?_,by rw [if_pos a3];exact decide_eq_true a4⟩
      have:=uniq a3 b3
      omega
     ·exact .inl ⟨k,by omega,by omega,a3,a4⟩
    ·exact .inr ⟨fun k b1 b2=>a1 k (by omega) (by omega),by rw [if_neg (a1 l (Nat.le_refl _) (by omega))];exact a2⟩
  ·show (resC x m (l+1) _).2 k=_
   rw [h3]
   by_cases hk:l+1≤k∧k<l+1+m
   ·rw [if_pos hk,if_pos (by omega)]
   ·rw [if_neg hk]
    by_cases hkl:k=l
    ·subst hkl
     rw [if_pos (by omega)]
     show upd p.2 k _ k=_
     exact za1 _ _ _
    ·rw [if_neg (by omega)]
     exact zck _ _ hkl
theorem zix (hco:RelOk x.ev.length x.co) {locs:Nat}:zb7 x locs=true↔(∀ k,k<locs→(zaC x k).headD 48=k)∧(∀ i j,i<48→(hasM x.co i j=true↔∃ k,k<locs∧i∈zaW x k∧j∈twl (sG x k) i))∧∀ k,k<6→x.mem k=if k<locs then zeK x.ev (zaC x k) else 0:=by
 obtain⟨p0,hp0⟩:∃ p0:RelD×(Nat→UInt8),p0=(⟨x.ev.length,fun _=>0⟩,fun _=>0):=⟨_,rfl⟩
 obtain⟨r1,r2,r3⟩:=ziP (x:=x) locs 0 p0
 have z:∀ i j,hasM p0.1 i j=false:=fun i j=>by rw [hp0];exact Nat.zero_testBit _
 have r2':∀ i j,hasM (resC x locs 0 p0).1 i j=true↔∃ k,k<locs∧i∈zaW x k∧j∈twl (sG x k) i:=fun i j=>by
  rw [r2]
  constructor
  ·rintro (⟨k,_,h2,h3⟩ | ⟨_,h⟩)
   ·exact⟨k,by omega,h3⟩
   ·rw [z] at h;cases h
  ·rintro⟨k,h2,h3⟩
   exact .inl ⟨k,Nat.zero_le _,by omega,h3⟩
 have r3':∀ k,(resC x locs 0 p0).2 k=if k<locs then zeK x.ev (zaC x k) else 0:=fun k=>by
  rw [r3]
  by_cases hk:k<locs
  ·rw [if_pos (by omega),if_pos hk]
  ·rw [if_neg (by omega),if_neg hk,hp0]
 have e:zb7 x locs=match coGo x locs 0 p0 with
  | none=>false
  | some p=>zbI p.1 x.co&&(List.range 6).all fun l=>decide (p.2 l=x.mem l):=by rw [hp0];rfl
 rw [e]
 by_cases hd:∀ k,k<locs→(zaC x k).headD 48=k
 ·rw [(zgN locs 0 p0 (resC x locs 0 p0)).2 ⟨fun k _ h=>hd k (by omega),rfl⟩]
  dsimp only
  rw [Bool.and_eq_true,List.all_eq_true]
  constructor
  ·rintro⟨h1,h2⟩
   refine⟨hd,fun i j hi=>?_,fun k hk=>?_⟩
   ·rw [← zhg h1 hi];exact r2' i j
   ·rw [← r3'];exact (of_decide_eq_true (h2 k (List.mem_range.2 hk))).symm
  ·rintro⟨_,h2,h3⟩
   refine⟨?_,fun k hk=>decide_eq_true (by rw [r3'];exact (h3 k (List.mem_range.1 hk)).symm)⟩
   unfold zbI
   rw [Bool.and_eq_true,decide_eq_true_eq,List.all_eq_true]
   refine⟨by rw [r1,hp0];exact hco.n.symm,fun i hi=>decide_eq_true (Nat.eq_of_testBit_eq fun j=>?_)⟩
   have:=(r2' i j).trans (h2 i j (List.mem_range.1 hi)).symm
   exact Bool.eq_iff_iff.2 this
 ·cases hg:coGo x locs 0 p0 with
  | none=>exact⟨fun h=>(by cases h),fun h=>(hd h.1).elim⟩
  | some q=>exact (hd fun k hk=>((zgN locs 0 p0 q).1 hg).1 k (Nat.zero_le _) (by omega)).elim
theorem zd3 {a loc:Nat} (ha:a<x.ev.length):zbM x a loc=true↔a∈zaW x loc:=by
 unfold zbM
 rw [zbz,Bool.and_eq_true,decide_eq_true_eq]
 exact⟨fun h=>⟨ha,h⟩,fun h=>h.2⟩
theorem zlg {s:List Nat} {d:Nat} (h:s≠[]):∃ A z,s=A++[z]∧s.reverse.headD d=z:=by
 cases hr:s.reverse with
 | nil=>exact (h (List.reverse_eq_nil_iff.1 hr)).elim
 | cons z r=>exact⟨r.reverse,z,by rw [← List.reverse_reverse s,hr,List.reverse_cons],rfl⟩
theorem zkZ (hco:RelOk x.ev.length x.co) {locs:Nat} (hl6:locs≤6) (hwl:∀ i,i<x.ev.length→isW x i=true→(evA x i).l.toNat<locs) (hin:∀ k,k<locs→k∈zaW x k) :
  zb7 x locs=true↔(∀ a b,a<x.ev.length→b<x.ev.length→hasM x.co a b=true→isW x a=true∧isW x b=true∧(evA x a).l=(evA x b).l)∧ze6 x locs=true:=by
 have h48:=hco.le
 have hq:∀ {a b},a<x.ev.length→hasQ x.co a b=hasM x.co a b:=fun {a b} ha=>zfr hco (by omega)
 have hb:∀ {a b},a<x.ev.length→hasM x.co a b=true→b<x.ev.length:=fun {a b} ha h=>(hco.bit (by omega) h).2
 have into0:∀ {a},zbA x.co a=0↔∀ b,b<x.ev.length→hasM x.co b a=false:=fun {a}=>by
  unfold zbA
  rw [hco.nat]
  constructor
  ·intro h b hb2
   cases hc:hasM x.co b a with
   | false=>rfl
   | true =>
    have:=zez (f:=fun b=>hasQ x.co b a).2 ⟨b,hb2,by rw [hq hb2];exact hc⟩
    omega
  ·intro h
   exact zec fun b hb2=>by rw [hq hb2];exact h b hb2
 have from0:∀ {a},a<x.ev.length→(zbN x.co a=0↔∀ b,hasM x.co a b=false):=fun {a} ha=>by
  unfold zbN
  rw [hco.nat]
  constructor
  ·intro h b
   cases hc:hasM x.co a b with
   | false=>rfl
   | true =>
    have:=zez (f:=fun b=>hasQ x.co a b).2 ⟨b,hb ha hc,by rw [hq ha];exact hc⟩
    omega
  ·intro h
   exact zec fun b hb2=>by rw [hq ha];exact h b
 rw [zix hco]
 constructor
 ·rintro⟨h1,h2,h3⟩
  have uniq:∀ {a k k'},a∈zaW x k→a∈zaW x k'→k=k':=fun a b=>(zbz.1 a).2.2.symm.trans (zbz.1 b).2.2
  refine⟨fun a b ha hb2 hab=>?_,?_⟩
  ·obtain⟨k,hk,ha2,hb3⟩:=(h2 a b (by omega)).1 hab
   have m1:=zbz.1 ha2
   have m2:=zbz.1 (zaB.1 (zbS hb3).1)
   exact⟨m1.2.1,m2.2.1,UInt8.toNat_inj.1 (m1.2.2.trans m2.2.2.symm)⟩
  ·unfold ze6
   rw [List.all_eq_true]
   intro loc hloc
   have hloc:=List.mem_range.1 hloc
   by_cases hll:locs≤loc
   ·rw [if_pos hll,h3 loc hloc,if_neg (by omega)];rfl
   rw [if_neg hll,List.all_eq_true]
   intro a ha
   have ha:=List.mem_range.1 ha
   rw [Bool.or_eq_true,Bool.not_eq_true']
   cases hm:zbM x a loc with
   | false=>exact .inl rfl
   | true =>
    right
    have hM:=(zd3 ha).1 hm
    have hs:=zaB (key:=keyC x).2 hM
    have out:∀ b,hasM x.co a b=true↔b∈twl (sG x loc) a:=fun b=>by
     rw [h2 a b (by omega)]
     exact⟨fun ⟨k,_,hk2,hk3⟩=>by rw [uniq hM hk2];exact hk3,fun h=>⟨loc,by omega,hM,h⟩⟩
    have inn:∀ b,b<x.ev.length→(hasM x.co b a=true↔b∈zaW x loc∧a∈twl (sG x loc) b):=fun b hb2=>by
     rw [h2 b a (by omega)]
     constructor
     ·rintro⟨k,_,hk2,hk3⟩
      have:=uniq (zaB.1 (zbS hk3).1) hM
      rw [← this]
      exact⟨hk2,hk3⟩
     ·rintro⟨hk2,hk3⟩
      exact⟨loc,by omega,hk2,hk3⟩
    unfold zgl
    simp only [Bool.and_eq_true]
    refine⟨⟨?_,?_,?_,?_⟩,?_⟩
    ·refine decide_eq_true ?_
     have dis:∀ b,b<x.ev.length→hasQ x.co b a=true→hasQ x.co a b=true→False:=fun b hb2 c1 c2=>by
      rw [hq hb2] at c1
      rw [hq ha] at c2
      have d1:=(inn b hb2).1 c1
      have d2:=(out b).1 c2
      exact ((zcF hs (zaB.2 d1.1) (fun e=>(zbS d2).2 e.symm)).1 d2) d1.2
     have e1:=zgO (f:=fun b=>hasQ x.co b a) (g:=fun b=>hasQ x.co a b) (n:=x.ev.length) dis
     have e2:cntQ (fun i=>hasQ x.co i a||hasQ x.co a i) x.ev.length=cntQ (fun b=>zbM x b loc && !decide (b=a)) x.ev.length:=zfB fun b hb2=>by
      rw [Bool.eq_iff_iff,Bool.or_eq_true,Bool.and_eq_true,zd3 hb2,hq hb2,hq ha,inn b hb2,out b,Bool.not_eq_true',decide_eq_false_iff_not]
      constructor
      ·rintro (⟨c1,c2⟩ | c)
       ·exact⟨c1,fun e=>(zbS c2).2 e.symm⟩
       ·exact⟨zaB.1 (zbS c).1,(zbS c).2⟩
      ·rintro⟨c1,c2⟩
       by_cases c:b∈twl (sG x loc) a
       ·exact .inr c
       ·refine .inl ⟨c1,?_⟩
        refine Classical.byContradiction fun hn=>c ((zcF hs (zaB.2 c1) (fun e=>c2 e.symm)).2 hn)
     have e3:=zgO (f:=fun b=>zbM x b loc && !decide (b=a)) (g:=fun b=>decide (b=a)) (n:=x.ev.length) fun b _ c1 c2=>by
      rw [Bool.and_eq_true,c2] at c1
      exact absurd c1.2 (by decide)
     rw [zlS ha] at e3
     have e4:cntQ (fun i=>(zbM x i loc && !decide (i=a))||decide (i=a)) x.ev.length=zjW x loc:=zfB fun b hb2=>by
      by_cases e:b=a
      ·rw [e,hm,decide_eq_true rfl];rfl
      ·rw [decide_eq_false e,Bool.or_false];simp
     unfold zbA zbN
     rw [hco.nat,e1,e2,← e4,← e3]
    ·rw [Bool.not_eq_true',hq ha]
     cases hc:hasM x.co a a with
     | false=>rfl
     | true=>exact ((zbS ((out a).1 hc)).2 rfl).elim
    ·rw [Bool.or_eq_true,Bool.not_eq_true']
     by_cases hal:a=loc
     ·right
      refine decide_eq_true (into0.2 fun b hb2=>?_)
      cases hc:hasM x.co b a with
      | false=>rfl
      | true =>
       obtain⟨c1,c2⟩:=(inn b hb2).1 hc
       have hne:sG x loc≠[]:=List.ne_nil_of_mem hs
       obtain⟨A,z,hA,hz⟩:=zlg (d:=48) hne
       have hz2:z=a:=by
        have:=h1 loc (by omega)
        rw [zdW] at this
        rw [← hz,this,hal]
       rw [hz2] at hA
       have hnd:=zgi (x:=x) loc
       rw [hA] at hnd
       have haA:a ∉ A:=fun h=>by
        have:=(List.nodup_append.1 hnd).2.2 a h a List.mem_cons_self
        exact this rfl
       have hba:b≠a:=fun e=>(zbS c2).2 e.symm
       have hbA:b∈A:=by
        have:=zaB (key:=keyC x).2 c1
        rw [show zda (keyC x) (zaW x loc)=A++[a] from hA,List.mem_append] at this
        rcases this with h | h
        ·exact h
        ·exact (hba (List.mem_singleton.1 h)).elim
       have:b∈twl (sG x loc) a:=by rw [hA,ziI haA];exact hbA
       exact ((zcF hs (zaB.2 c1) (fun e=>hba e.symm)).1 this c2).elim
     ·exact .inl (decide_eq_false hal)
    ·rw [Bool.or_eq_true,Bool.not_eq_true']
     by_cases hf:zbN x.co a=0
     ·right
      refine decide_eq_true ?_
      have no:=(from0 ha).1 hf
      rw [h3 loc hloc,if_pos (by omega)]
      show (x.ev.getD ((zaC x loc).getLastD 0) ev0).v=_
      have hh:(zaC x loc).getLastD 0=a:=by
       rw [zdW]
       cases hsG:sG x loc with
       | nil=>rw [show zda (keyC x) (zaW x loc)=[] from hsG] at hs;cases hs
       | cons z s =>
        have:z=a:=Classical.byContradiction fun hz=>by
         have:=no z
         rw [Bool.eq_false_iff] at this
         refine this ((out z).2 ?_)
         rw [hsG,zb9,if_neg hz]
         exact List.mem_cons_self
        rw [this]
        simp
      rw [hh];rfl
     ·exact .inl (decide_eq_false hf)
    ·rw [List.all_eq_true]
     intro b hb2
     have hb2:=List.mem_range.1 hb2
     rw [Bool.and_eq_true,List.all_eq_true]
     refine⟨?_,fun c hc=>?_⟩
     ·rw [Bool.or_eq_true,Bool.not_eq_true',Bool.not_eq_true',beq_eq_false_iff_ne]
      by_cases hbm:(!decide (b=a)&&zbM x b loc)=true
      ·right
       rw [Bool.and_eq_true,Bool.not_eq_true',decide_eq_false_iff_not,zd3 hb2] at hbm
       rw [hq ha,hq hb2]
       intro e
       have t:=zcF hs (zaB.2 hbm.2) (fun e=>hbm.1 e.symm)
       by_cases c:b∈twl (sG x loc) a
       ·have c1:=(out b).2 c
        rw [e] at c1
        exact t.1 c ((inn b hb2).1 c1).2
       ·have c2:a∈twl (sG x loc) b:=Classical.byContradiction fun hn=>c (t.2 hn)
        have c3:=(inn b hb2).2 ⟨hbm.2,c2⟩
        rw [← e] at c3
        exact c ((out b).1 c3)
      ·exact .inl (by simpa using hbm)
     ·have hc:=List.mem_range.1 hc
      rw [Bool.or_eq_true,Bool.not_eq_true']
      by_cases hh:(hasQ x.co a b&&hasQ x.co b c)=true
      ·right
       rw [Bool.and_eq_true,hq ha,hq hb2] at hh
       rw [hq ha,out c]
       have c1:=(out b).1 hh.1
       obtain⟨k,_,k2,k3⟩:=(h2 b c (by omega)).1 hh.2
       have:=uniq (zaB.1 (zbS c1).1) k2
       rw [← this] at k3
       exact zgY c1 k3
      ·exact .inl (by simpa using hh)
 ·rintro⟨hpc,hpl⟩
  unfold ze6 at hpl
  rw [List.all_eq_true] at hpl
  have ord:∀ loc,loc<locs→∀ a,a∈zaW x loc→(a=loc→∀ b,b<x.ev.length→hasM x.co b a=false)∧((∀ b,hasM x.co a b=false)→x.mem loc=(evA x a).v)∧hasM x.co a a=false∧(∀ b,b∈zaW x loc→b≠a→hasM x.co a b≠hasM x.co b a)∧∀ b c,hasM x.co a b=true→hasM x.co b c=true→hasM x.co a c=true:=fun loc hloc a hM=>by
   have ha:=(zbz.1 hM).1
   have h1:=hpl loc (List.mem_range.2 (by omega))
   rw [if_neg (by omega),List.all_eq_true] at h1
   have h2:=h1 a (List.mem_range.2 ha)
   rw [(zd3 ha).2 hM,Bool.not_true,Bool.false_or] at h2
   unfold zgl at h2
   simp only [Bool.and_eq_true,Bool.or_eq_true,Bool.not_eq_true',decide_eq_true_eq,decide_eq_false_iff_not,List.all_eq_true,List.mem_range] at h2
   obtain⟨⟨_,c2,c3,c4⟩,c5⟩:=h2
   refine⟨fun e b hb2=>?_,fun hn=>?_,by rw [← hq ha];exact c2,fun b hbM hne=>?_,fun b c h3 h4=>?_⟩
   ·rcases c3 with c3 | c3
    ·exact (c3 e).elim
    ·exact into0.1 c3 b hb2
   ·rcases c4 with c4 | c4
    ·exact (c4 ((from0 ha).2 hn)).elim
    ·exact c4
   ·have hb2:=(zbz.1 hbM).1
    have:=(c5 b hb2).1
    rcases this with h | h
    ·rw [decide_eq_false hne,(zd3 hb2).2 hbM] at h
     exact absurd h (by decide)
    ·rw [beq_eq_false_iff_ne,hq ha,hq hb2] at h
     exact h
   ·have hb2:=hb ha h3
    have hc2:=hb hb2 h4
    have:=(c5 b hb2).2 c hc2
    rw [hq ha,hq hb2,hq ha,h3,h4] at this
    rcases this with h | h
    ·exact absurd h (by decide)
    ·exact h
  have sameL:∀ {loc a b},a∈zaW x loc→hasM x.co a b=true→b∈zaW x loc:=fun {loc a b} hM h=>by
   have ha:=zbz.1 hM
   have hb2:=hb ha.1 h
   obtain⟨_,c2,c3⟩:=hpc a b ha.1 hb2 h
   exact zbz.2 ⟨hb2,c2,by rw [← c3];exact ha.2.2⟩
  have kmono:∀ {loc a b},loc<locs→a∈zaW x loc→hasM x.co a b=true→keyC x b<keyC x a:=fun {loc a b} hloc hM h=>by
   have hbM:=sameL hM h
   have ob:=ord loc hloc b hbM
   have oa:=ord loc hloc a hM
   have hb2:=(zbz.1 hbM).1
   show lenS (x.co.to b)<lenS (x.co.to a)
   rw [zi6,zi6]
   exact zj7 (j:=b) (fun c _ hc=>oa.2.2.2.2 b c h hc) (by omega) ob.2.2.1 h
  have total:∀ {loc a b},loc<locs→a∈zaW x loc→b∈zaW x loc→a≠b→(hasM x.co a b=true∧keyC x b<keyC x a)∨(hasM x.co b a=true∧keyC x a<keyC x b):=fun {loc a b} hloc hM hbM hne=>by
   have:=(ord loc hloc a hM).2.2.2.1 b hbM (fun e=>hne e.symm)
   cases c1:hasM x.co a b with
   | true=>exact .inl ⟨rfl,kmono hloc hM c1⟩
   | false =>
    cases c2:hasM x.co b a with
    | true=>exact .inr ⟨rfl,kmono hloc hbM c2⟩
    | false=>exact (this (c1.trans c2.symm)).elim
  have strict:∀ loc,loc<locs→(sG x loc).Pairwise fun a b=>keyC x a<keyC x b:=fun loc hloc =>
   ze7 (zg4 _ _) (zgi loc) fun a b ha hb2 hne=>by
    rcases total hloc (zaB.1 ha) (zaB.1 hb2) hne with h | h <;> omega
  refine⟨fun loc hloc=>?_,fun i j hi=>?_,fun loc hloc6=>?_⟩
  ·have hL:=hin loc hloc
   have hs:=zaB (key:=keyC x).2 hL
   obtain⟨A,z,hA,hz⟩:=zlg (d:=48) (List.ne_nil_of_mem hs)
   rw [zdW]
   refine hz.trans (Classical.byContradiction fun hne=>?_)
   have hzm:z∈zaW x loc:=zaB.1 (by rw [show zda (keyC x) (zaW x loc)=A++[z] from hA];simp)
   have hlA:loc∈A:=by
    rw [show zda (keyC x) (zaW x loc)=A++[z] from hA,List.mem_append] at hs
    rcases hs with h | h
    ·exact h
    ·exact (hne (List.mem_singleton.1 h).symm).elim
   have k1:keyC x loc<keyC x z:=by
    have:=strict loc hloc
    rw [show sG x loc=A++[z] from hA,List.pairwise_append] at this
    exact this.2.2 loc hlA z List.mem_cons_self
   have:=(ord loc hloc loc hL).1 rfl z (zbz.1 hzm).1
   rcases total hloc hL hzm (fun e=>hne e.symm) with h | h
   ·omega
   ·rw [h.1] at this;cases this
  ·constructor
   ·intro h
    have hi2:i<x.ev.length:=(hco.bit hi h).1
    obtain⟨w1,w2,w3⟩:=hpc i j hi2 (hb hi2 h) h
    have hloc:=hwl i hi2 w1
    have hM:i∈zaW x (evA x i).l.toNat:=zbz.2 ⟨hi2,w1,rfl⟩
    exact⟨_,hloc,hM,(zky (strict _ hloc) (zaB.2 hM) (zaB.2 (sameL hM h))).2 (kmono hloc hM h)⟩
   ·rintro⟨k,hk,hM,ht⟩
    have hjM:=zaB.1 (zbS ht).1
    have:=(zky (strict k hk) (zaB.2 hM) (zaB.2 hjM)).1 ht
    rcases total hk hM hjM (fun e=>(zbS ht).2 e.symm) with h | h
    ·exact h.1
    ·omega
  ·by_cases hloc:loc<locs
   ·rw [if_pos hloc]
    have hL:=hin loc hloc
    have hs:=zaB (key:=keyC x).2 hL
    show _=(x.ev.getD ((zaC x loc).getLastD 0) ev0).v
    rw [zdW]
    have st:=strict loc hloc
    cases hsG:sG x loc with
    | nil=>rw [show zda (keyC x) (zaW x loc)=[] from hsG] at hs;cases hs
    | cons z s =>
     have hzm:z∈zaW x loc:=zaB.1 (show z∈sG x loc by rw [hsG];exact List.mem_cons_self)
     have e:(z::s).reverse.getLastD 0=z:=by simp
     rw [e]
     refine (ord loc hloc z hzm).2.1 fun b=>?_
     cases hc:hasM x.co z b with
     | false=>rfl
     | true =>
      have hbM:=sameL hzm hc
      have k1:=kmono hloc hzm hc
      have hbs:b∈z::s:=by rw [← hsG];exact zaB.2 hbM
      rcases List.mem_cons.1 hbs with rfl | hbs
      ·omega
      ·rw [hsG] at st
       have:=(List.pairwise_cons.1 st).1 b hbs
       omega
   ·have h1:=hpl loc (List.mem_range.2 hloc6)
    rw [if_pos (by omega)] at h1
    rw [if_neg hloc]
    exact of_decide_eq_true h1
end
end Go.Proofs.YtmbghmhjjodgmaaGreatDoor
