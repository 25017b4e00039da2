/- Contracts of functions, and plain facts, for the law that the last text of this claim proves. -/
import Derived.Test.YtkpkdmipjinoaaaGreatDoorA4
import Derived.Test.YtkpkdmipjinoaaaGreatDoorA2
import Derived.Test.YtkpkdmipjinoaaaGreatDoorA1
import Derived.Test.YtkpkdmipjinoaaaGreatDoorA3
import Derived.MapKept
import Derived.Laws.StructEq
import Derived.Shelf.Strings.Builder1
import Derived.Shelf.Small.Strs
import Derived.Shelf.Strings.BuilderF
import Derived.Shelf.Strings.Search1
import Derived.Shelf.Strings.LastIndex
import Derived.Shelf.Strings.Prefix
import Derived.Shelf.Bits.Mul64
import Derived.Test.YtkpkdmipjinoaaaGreatDoorProg
set_option linter.unusedSimpArgs false
set_option linter.unusedVariables false
namespace Go.Proofs.YtkpkdmipjinoaaaGreatDoor
open Go.Vc Go.RowKit Go.Sei
theorem ze4:∀ (ev:List Ev) (k:Nat),(∀ j,j<k->(ev.getD j ev0).th = -1)->k<=ev.length->zcH ev=k+zcH (ev.drop k)
 | ev,0,_,_=>by rw [List.drop_zero,Nat.zero_add]
 | [],k+1,_,h=>by simp at h
 | e::ev,k+1,hj,h=>by
  have h0:e.th = -1:=hj 0 (by omega);have ih:=ze4 ev k (fun j hjk=>hj (j+1) (by omega)) (by simpa using h);unfold zcH at ih ⊢;rw [List.takeWhile_cons,if_pos (decide_eq_true h0),List.length_cons,ih,List.drop_succ_cons];omega
section
variable {q:Option Addr} {c:Nat} {ev:List Ev} {w:World}
theorem zlk (hl:SlR evE w q ev) (hn:ev.length<=1000):CB 66 #[.slice q ev.length c] w (i64 (zcH ev:Nat)):=by
 refine cofE 19 [.slice q ev.length c] Tryz.func66 ?_;refine⟨Nat,fun k=>⟨[(0,.slice q ev.length c),(5,.slice q ev.length c),(6,i64 ev.length),(7,i64 (k:Nat))],[]⟩,fun k X=>k<=ev.length/\(∀ j,j<k->(ev.getD j ev0).th = -1)/\Bw w X,fun k=>ev.length-k,0,(cvE rfl rfl),⟨Nat.zero_le _,fun j h=>by omega,Below.refl _ _⟩,?_⟩;rintro k X ⟨hk,hj,hbX⟩;dsimp only;have hXs:=hbX.size;refine biE (fun hc=>?_) fun hc=>?_
 ·have hc:(k:Int)<(ev.length:Int):=dT hc;have hkl:k<ev.length:=by omega
  obtain⟨b,o,rfl,hb,hat⟩:=zeb (hl.below hbX) hkl;obtain⟨e,he⟩:=nm (ev.getD k ev0);rw [<- he] at hat;refine⟨k,rfl,hkl,?_⟩;refine⟨evE.enc e,rfl,hat,hb,?_⟩;refine zal (X:=X) (v := .agg (evE.enc e).toArray) k208 rfl rfl (List.all_eq_true.2 fun u hu=>evE.one e u hu) fun Y hbY fY sY=>?_;have fY:Y.heap[X.heap.size]?=some (.cells (evE.enc e).toArray 208 (0,0)):=fY;refine⟨i64 e.th,zac (zaa fY) (i:=0) rfl,?_⟩;have hbY2:=hbX.trans (hbY.mono hXs);refine biE (fun h=>?_) fun h=>?_
  ·have h:(!decide (e.th = -1))=true:=h;have h:¬ e.th = -1:=by simpa using h
   refine⟨?_,hbY2⟩;have h2:=ze4 ev k hj hk;have h3:zcH (ev.drop k)=0:=by
    unfold zcH;have h4:ev[k]=e:=(by rw [he,gDe,gE hkl];rfl);rw [<- List.getElem_cons_drop hkl,List.takeWhile_cons,h4,if_neg (by simpa using h)];rfl
   rw [h3] at h2;exact ri (by omega)
  ·have h:(!decide (e.th = -1))=false:=h;have h:e.th = -1:=by simpa using h
   refine nxI (by omega) ?_;refine⟨k+1,(cvE rfl rfl),⟨hkl,fun j hjk=>?_,hbY2⟩,zdc (by omega)⟩;by_cases e2:j=k
   ·rw [e2,<- he];exact h
   ·exact hj j (by omega)
 ·have hc:¬ (k:Int)<(ev.length:Int):=dF hc;obtain rfl:k=ev.length:=by omega
  refine⟨?_,hbX⟩;have h2:=ze4 ev ev.length hj (Nat.le_refl _);rw [List.drop_length] at h2;exact ri (by rw [h2];show ((ev.length:Nat):Int)=((ev.length+0:Nat):Int);rfl)
theorem zoZ {i:Nat} {v:UInt8}:zfm (zgF [(0,1,false),(1,1,false),(2,1,false),(3,1,false),(4,1,false),(5,1,false),(6,1,false)]) (evE.enc ev0) [(0,i64 (-1)),(1,u8 2),(2,u8 (UInt8.ofNat i)),(3,u8 v)]=some (evE.enc ⟨-1,2,UInt8.ofNat i,v,0,0,0⟩):=rfl
theorem zhP {locs:Nat} (hl:SlR evE w q ev) (hn:ev.length<=1000) (hlo:locs<=1000):CB 67 #[.slice q ev.length c,i64 locs] w (.bool (zbP ev locs)):=by
 refine cofE 69 [.slice q ev.length c,i64 locs] Tryz.func67 ?_;refine⟨Nat×Int×Nat,fun s=>⟨[(1,i64 locs),(5,i64 s.2.1),(6,i64 (s.2.2:Nat)),(9,.slice q ev.length c),(10,i64 ev.length),(11,i64 (s.1:Nat))],[]⟩,fun s X=>s.1<=ev.length/\s.2.2<=s.1/\evGo locs s.1 (ev.drop s.1) s.2.1 s.2.2=zbP ev locs/\Bw w X,fun s=>ev.length-s.1,(0,0,0),(cvE rfl rfl),⟨Nat.zero_le _,Nat.le_refl _,rfl,Below.refl _ _⟩,?_⟩;rintro⟨k,t,m⟩ X ⟨hk,hm,hgo,hbX⟩;dsimp only at hk hm hgo ⊢;have hXs:=hbX.size;refine biE (fun hc=>?_) fun hc=>?_
 ·have hc:(k:Int)<(ev.length:Int):=dT hc;have hkl:k<ev.length:=by omega
  obtain⟨b,o,rfl,hb,hat⟩:=zeb (hl.below hbX) hkl;obtain⟨e,he⟩:=nm (ev.getD k ev0);rw [<- he] at hat;have hdr:ev.drop k=e::ev.drop (k+1):=by
   rw [<- List.getElem_cons_drop hkl,he,gDe,gE hkl];rfl
  rw [hdr] at hgo;unfold evGo at hgo;refine⟨k,rfl,hkl,?_⟩;refine⟨evE.enc e,rfl,hat,hb,?_⟩;refine zal (X:=X) (v := .agg (evE.enc e).toArray) k208 rfl rfl (List.all_eq_true.2 fun u hu=>evE.one e u hu) fun Y hbY fY sY=>?_;have fY:Y.heap[X.heap.size]?=some (.cells (evE.enc e).toArray 208 (0,0)):=fY;have hbY2:=hbX.trans (hbY.mono hXs);have ld:∀ {i:Nat} {v:Value},(evE.enc e)[i]?=some v->Y.cell? ⟨X.heap.size,0+i,none⟩=some v:=fun h=>zac (zaa fY) h;have no:zbP ev locs=false->(Ending.returned (.bool false)=Ending.returned (.bool (zbP ev locs))/\Bw w Y):=fun h=>⟨rb h.symm,hbY2⟩;refine biE (fun h=>?_) fun h=>?_
  ·have h:(k:Int)<(locs:Int):=dT h;rw [if_pos (by omega:k<locs)] at hgo;refine⟨evE.enc e,rfl,zaa fY,hlt fY,?_⟩;refine⟨_,w8N k,?_⟩;refine⟨u8 e.v,ld (i:=3) rfl,?_⟩;refine⟨evE.enc ⟨-1,2,UInt8.ofNat k,e.v,0,0,0⟩,zoZ,?_⟩;refine⟨_,fun w=>zrT _ _ e _ w,?_⟩;refine biE (fun h2=>?_) fun h2=>?_
   ·have h2:¬ e=⟨-1,2,UInt8.ofNat k,e.v,0,0,0⟩:=(by simpa using h2);rw [if_neg h2] at hgo;exact no hgo.symm
   ·have h2:e=⟨-1,2,UInt8.ofNat k,e.v,0,0,0⟩:=(by simpa using h2);rw [if_pos h2] at hgo;refine nxI (by omega) ?_;exact⟨(k+1,t,m),(cvE rfl rfl),⟨hkl,by show m<=k+1;omega,hgo,hbY2⟩,zdc (by omega)⟩
  ·have h:¬ (k:Int)<(locs:Int):=dF h;rw [if_neg (by omega:¬ k<locs)] at hgo;refine⟨i64 e.th,ld (i:=0) rfl,?_⟩;refine biE (fun h1=>?_) fun h1=>?_
   ·have h1:e.th<t:=dT h1;refine brT ?_;rw [if_pos (.inl h1)] at hgo;exact no hgo.symm
   have h1:¬ e.th<t:=dF h1;refine⟨i64 e.th,ld (i:=0) rfl,?_⟩;refine biE (fun h2=>?_) fun h2=>?_
   ·have h2:4<=e.th:=dT h2;rw [if_pos (.inr h2)] at hgo;exact no hgo.symm
   have h2:¬ 4<=e.th:=dF h2;rw [if_neg (by rintro (h | h);exact h1 h;exact h2 h)] at hgo;refine⟨i64 e.th,ld (i:=0) rfl,?_⟩;refine biE (fun h9=>?_) fun h9=>?_
   ·have h9:t<e.th:=dT h9;dsimp only at hgo;rw [if_pos h9,if_pos h9] at hgo;refine⟨i64 e.th,ld (i:=0) rfl,?_⟩;refine⟨u8 e.p,ld (i:=6) rfl,?_⟩;refine⟨(e.p.toNat:Int),zaZ _,?_⟩;refine biE (fun h3=>?_) fun h3=>?_
    ·have h3:¬ e.p.toNat=0:=by
      have h3:(!decide ((e.p.toNat:Int)=(0:Nat)))=true:=h3;simpa using h3
     rw [if_neg h3] at hgo;exact no hgo.symm
    have h3:e.p.toNat=0:=by
     have h3:(!decide ((e.p.toNat:Int)=(0:Nat)))=false:=h3;simpa using h3
    rw [if_pos h3] at hgo;refine⟨((0+1:Nat):Int),(zai (by omega)).trans (by omega),?_⟩;refine⟨u8 e.k,ld (i:=1) rfl,?_⟩;refine biE (fun h4=>?_) fun h4=>?_
    ·refine brE h4 ?_;have h4:e.k=1:=zbM.1 (dT h4);rw [if_pos (.inl h4)] at hgo;refine⟨u8 e.l,ld (i:=2) rfl,?_⟩;refine⟨(e.l.toNat:Int),zaZ _,?_⟩;refine biE (fun h5=>?_) fun h5=>?_
     ·have h5:(locs:Int)<=(e.l.toNat:Int):=dT h5;rw [if_neg (by omega)] at hgo;exact no hgo.symm
     ·have h5:¬ (locs:Int)<=(e.l.toNat:Int):=dF h5;rw [if_pos (by omega)] at hgo;refine nxI (by omega) ?_;exact⟨(k+1,e.th,0+1),(cvE rfl rfl),⟨hkl,by show 0+1<=k+1;omega,hgo,hbY2⟩,zdc (by omega)⟩
    have h4:¬ e.k=1:=fun e2=>(dF h4) (by rw [e2];rfl);refine biE (fun h5=>?_) fun h5=>?_
    ·have h5:e.k=2:=zbM.1 (dT h5);rw [if_pos (.inr h5)] at hgo;refine⟨u8 e.l,ld (i:=2) rfl,?_⟩;refine⟨(e.l.toNat:Int),zaZ _,?_⟩;refine biE (fun h5=>?_) fun h5=>?_
     ·have h5:(locs:Int)<=(e.l.toNat:Int):=dT h5;rw [if_neg (by omega)] at hgo;exact no hgo.symm
     ·have h5:¬ (locs:Int)<=(e.l.toNat:Int):=dF h5;rw [if_pos (by omega)] at hgo;refine nxI (by omega) ?_;exact⟨(k+1,e.th,0+1),(cvE rfl rfl),⟨hkl,by show 0+1<=k+1;omega,hgo,hbY2⟩,zdc (by omega)⟩
    have h5:¬ e.k=2:=fun e2=>(dF h5) (by rw [e2];rfl);rw [if_neg (by rintro (h | h);exact h4 h;exact h5 h)] at hgo;refine biE (fun h6=>?_) fun h6=>?_
    ·have h6:e.k=3:=zbM.1 (dT h6);rw [if_pos h6] at hgo;refine⟨u8 e.l,ld (i:=2) rfl,?_⟩;refine biE (fun h7=>?_) fun h7=>?_
     ·have h7:¬ e.l=0:=by
       have h7:(!decide ((e.l.toNat:Int)=0))=true:=h7;intro e2;rw [e2] at h7
       cases h7
      refine brT ?_;rw [if_neg fun h=>h7 h.1] at hgo;exact no hgo.symm
     ·have h7:e.l=0:=by
       have h7:(!decide ((e.l.toNat:Int)=((0:UInt8).toNat:Int)))=false:=h7;exact zbM.1 (by simpa using h7)
      refine⟨u8 e.v,ld (i:=3) rfl,?_⟩;refine biE (fun h8=>?_) fun h8=>?_
      ·have h8:¬ e.v=0:=by
        have h8:(!decide ((e.v.toNat:Int)=0))=true:=h8;intro e2;rw [e2] at h8
        cases h8
       rw [if_neg fun h=>h8 h.2] at hgo;exact no hgo.symm
      ·have h8:e.v=0:=by
        have h8:(!decide ((e.v.toNat:Int)=((0:UInt8).toNat:Int)))=false:=h8;exact zbM.1 (by simpa using h8)
       rw [if_pos ⟨h7,h8⟩] at hgo;refine nxI (by omega) ?_;exact⟨(k+1,e.th,0+1),(cvE rfl rfl),⟨hkl,by show 0+1<=k+1;omega,hgo,hbY2⟩,zdc (by omega)⟩
    ·have h6:¬ e.k=3:=fun e2=>(dF h6) (by rw [e2];rfl);rw [if_neg h6] at hgo;exact no hgo.symm
   ·have h9:¬ t<e.th:=dF h9;dsimp only at hgo;rw [if_neg h9,if_neg h9] at hgo;refine⟨u8 e.p,ld (i:=6) rfl,?_⟩;refine⟨(e.p.toNat:Int),zaZ _,?_⟩;refine biE (fun h3=>?_) fun h3=>?_
    ·have h3:¬ e.p.toNat=m:=by
      have h3:(!decide ((e.p.toNat:Int)=(m:Nat)))=true:=h3;intro e2;rw [e2] at h3;simp at h3
     rw [if_neg h3] at hgo;exact no hgo.symm
    have h3:e.p.toNat=m:=by
     have h3:(!decide ((e.p.toNat:Int)=(m:Nat)))=false:=h3;have h3:(e.p.toNat:Int)=(m:Nat):=(by simpa using h3);omega
    rw [if_pos h3] at hgo;refine nxI (by omega) ?_;refine⟨u8 e.k,ld (i:=1) rfl,?_⟩;refine biE (fun h4=>?_) fun h4=>?_
    ·refine brE h4 ?_;have h4:e.k=1:=zbM.1 (dT h4);rw [if_pos (.inl h4)] at hgo;refine⟨u8 e.l,ld (i:=2) rfl,?_⟩;refine⟨(e.l.toNat:Int),zaZ _,?_⟩;refine biE (fun h5=>?_) fun h5=>?_
     ·have h5:(locs:Int)<=(e.l.toNat:Int):=dT h5;rw [if_neg (by omega)] at hgo;exact no hgo.symm
     ·have h5:¬ (locs:Int)<=(e.l.toNat:Int):=dF h5;rw [if_pos (by omega)] at hgo;refine nxI (by omega) ?_;exact⟨(k+1,t,m+1),(cvE rfl rfl),⟨hkl,by show m+1<=k+1;omega,hgo,hbY2⟩,zdc (by omega)⟩
    have h4:¬ e.k=1:=fun e2=>(dF h4) (by rw [e2];rfl);refine biE (fun h5=>?_) fun h5=>?_
    ·have h5:e.k=2:=zbM.1 (dT h5);rw [if_pos (.inr h5)] at hgo;refine⟨u8 e.l,ld (i:=2) rfl,?_⟩;refine⟨(e.l.toNat:Int),zaZ _,?_⟩;refine biE (fun h5=>?_) fun h5=>?_
     ·have h5:(locs:Int)<=(e.l.toNat:Int):=dT h5;rw [if_neg (by omega)] at hgo;exact no hgo.symm
     ·have h5:¬ (locs:Int)<=(e.l.toNat:Int):=dF h5;rw [if_pos (by omega)] at hgo;refine nxI (by omega) ?_;exact⟨(k+1,t,m+1),(cvE rfl rfl),⟨hkl,by show m+1<=k+1;omega,hgo,hbY2⟩,zdc (by omega)⟩
    have h5:¬ e.k=2:=fun e2=>(dF h5) (by rw [e2];rfl);rw [if_neg (by rintro (h | h);exact h4 h;exact h5 h)] at hgo;refine biE (fun h6=>?_) fun h6=>?_
    ·have h6:e.k=3:=zbM.1 (dT h6);rw [if_pos h6] at hgo;refine⟨u8 e.l,ld (i:=2) rfl,?_⟩;refine biE (fun h7=>?_) fun h7=>?_
     ·have h7:¬ e.l=0:=by
       have h7:(!decide ((e.l.toNat:Int)=0))=true:=h7;intro e2;rw [e2] at h7
       cases h7
      refine brT ?_;rw [if_neg fun h=>h7 h.1] at hgo;exact no hgo.symm
     ·have h7:e.l=0:=by
       have h7:(!decide ((e.l.toNat:Int)=((0:UInt8).toNat:Int)))=false:=h7;exact zbM.1 (by simpa using h7)
      refine⟨u8 e.v,ld (i:=3) rfl,?_⟩;refine biE (fun h8=>?_) fun h8=>?_
      ·have h8:¬ e.v=0:=by
        have h8:(!decide ((e.v.toNat:Int)=0))=true:=h8;intro e2;rw [e2] at h8
        cases h8
       rw [if_neg fun h=>h8 h.2] at hgo;exact no hgo.symm
      ·have h8:e.v=0:=by
        have h8:(!decide ((e.v.toNat:Int)=((0:UInt8).toNat:Int)))=false:=h8;exact zbM.1 (by simpa using h8)
       rw [if_pos ⟨h7,h8⟩] at hgo;refine nxI (by omega) ?_;exact⟨(k+1,t,m+1),(cvE rfl rfl),⟨hkl,by show m+1<=k+1;omega,hgo,hbY2⟩,zdc (by omega)⟩
    ·have h6:¬ e.k=3:=fun e2=>(dF h6) (by rw [e2];rfl);rw [if_neg h6] at hgo;exact no hgo.symm
 ·have hc:¬ (k:Int)<(ev.length:Int):=dF hc;obtain rfl:k=ev.length:=by omega
  rw [List.drop_length] at hgo;exact⟨rb hgo,hbX⟩
end
end Go.Proofs.YtkpkdmipjinoaaaGreatDoor
namespace Go.Vc
open Go.RowKit
def zrl {α:Type} (P:Program) (g:Nat) (lb:List Value) (xs:List α) (W0:World) (Rd:Nat->Prop) (St:List α->List Value->World->Prop) (Gv:List Value->Nat->Prop):Prop :=
 ∀ (l:Nat) (F0:Nat->Prop) (J:List α->(Nat->Prop)->World->Prop) (W:World),W0.heap.size<=W.heap.size->(∀ k,Rd k->W.heap[k]?=W0.heap[k]?)->(∀ k,Rd k->¬ F0 k) ->
  JG W.heap.size (fun _=>False) J ->
  (∀ pre x vs F W1,J pre F W1->St (pre++[x]) vs W1->(∀ k,Gv vs k->W.heap.size<=k)->(pre++[x]) <+: xs->YieldR P l vs.toArray W1 fun v W2 =>
   v = .bool true/\∃ F',J (pre++[x]) F' W2/\KeepsG (fun k=>F k\/Gv vs k) F' W1 W2) ->
  J [] F0 W ->
  Calls P g (.func (.yield l) #[] #[]::lb).toArray W fun e W'=>(∃ v,e = .returned v)/\∃ F',J xs F' W'
theorem zrE {α:Type} {S:Sig} (hS:SigOk S) (hr:S.r=none) {f:Operand} {ps:Array Tmp} {assign body:Code} {E:Env} {w:World} {Q:Exit->Env->World->Prop}
  {gf:Nat} {lb:Array Value} (hg:opd E f=some (.func (.func gf) #[] lb)) (hok:zbQ S gf=true)
  {xs:List α} {W0:World} {Rd:Nat->Prop} {St:List α->List Value->World->Prop} {Gv:List Value->Nat->Prop} (hI:zrl S.P gf lb.toList xs W0 Rd St Gv) (hGv:∀ pre vs W k,St pre vs W->Gv vs k->∃ cs t fr,W.heap[k]?=some (.cells cs t fr)) (hW0:W0.heap.size<=w.heap.size) (hRd:∀ k,Rd k->k<W0.heap.size/\w.heap[k]?=W0.heap[k]?)
  (hps:∀ pre vs W,St pre vs W->vs.length=ps.size) (hpn:∀ p∈ps.toList,p<S.n)
  (F0:Nat->Prop) (J:List α->(Nat->Prop)->World->Prop) (hRF:∀ k,Rd k->¬ F0 k)
  (hJ:JG w.heap.size (fun _=>False) J) (h0:J [] F0 w)
  (hround:∀ (l:Nat) (pre:List α) (x:α) (vs:List Value) (F:Nat->Prop) (W:World),w.heap.size<=l->(pre++[x]) <+: xs->J pre F W->St (pre++[x]) vs W->(∀ k,Gv vs k->w.heap.size<=k)->¬ F l->(∃ lo,W.heap[l]?=some (.loop lo)) ->
   wpE (sr S l) assign ⟨setL ps.toList vs E.vs,[]⟩ W fun ex E1 W1=>ex = .normal/\∃ F1,KeepsG (fun k=>F k\/Gv vs k) F1 W W1/\J pre F1 W1 /\
    ∀ o W2,W2=W1.putObj l o->J pre F1 W2->wpE (sr S l) body E1 W2 (zsx F1 J (fun _ _ _ _=>False) (pre++[x]) W2))
  (hdone:∀ D F W,w.heap.size<=D->¬ F D->J xs F W->W.heap[D]?=some (.deferred (some []))->Q .normal ⟨E.vs,{ target := .collected D,args := #[] }::E.ds⟩ W) :
  zkK S f ps assign body E w Q:=by
 intro a ha;have hcall:∀ args w,(callFunc gf args).run S.P w = .ok (.enter gf args) w:=by
  simp only [zbQ,bAT,Nat.ble_eq,Nat.blt_eq] at hok;exact fun args w=>hS.call gf hok.1.1 hok.1.2 hok.2 args w
 refine wpIn_rangeFunc ?_;intro fn hfn;have hro:(FR S.r).round=none:=hr;rw [hro];obtain⟨rec,hrec⟩:∃ rec:LoopState->Option Code->Loop,rec=fun st pe=>{ state:=st,pending:=pe,fn,tmps:=a.tmps,params:=ps,assign,body,defers:=w.heap.size }:=⟨_,rfl⟩;obtain⟨W1,hW1⟩:∃ W1,(w.alloc (.deferred (some []))).alloc (.loop (rec .ready none))=W1:=⟨_,rfl⟩;have hK0:=hnew w (.deferred (some []));have hK1:W1.heap[w.heap.size]?=some (.deferred (some [])):=by rw [<- hW1];exact hold _ hK0
 have hL1:W1.heap[w.heap.size+1]?=some (.loop (rec .ready none)):=by
  rw [<- hW1];have:=hnew (w.alloc (.deferred (some []))) (.loop (rec .ready none));rwa [wz] at this
 have hs1:W1.heap.size=w.heap.size+2:=by rw [<- hW1];simp
 have hst1:Bw w W1:=by
  rw [<- hW1];exact ((zba w _)).alloc (by simp) _
 have hJ1:=hJ.step _ _ _ _ h0 (.below hst1);have hFl:∀ k,F0 k->k<w.heap.size:=fun k hk=>(hJ.lt _ _ _ k h0 hk).1;refine⟨w.heap.size+1,[{ target := .collected w.heap.size,args := #[] }],W1,{ target := .fn (.func gf) lb,args := #[.func (.yield (w.heap.size+1)) #[] #[]] },W1,gf,
  #[.func (.yield (w.heap.size+1)) #[] #[]]++lb,W1,?_,?_,fun _ _=>trivial,?_,fun h=>by simp [FR] at h,?_⟩
 ·rw [<- hW1,hrec];exact run_enterLoop_outer _ _ _ _ _
 ·have hg':=ha.eval hg;simp only [resolve,hg'];simp [go_sem]
 ·simp [invoke,go_sem,hcall]
 ·have hargs : #[Value.func (.yield (w.heap.size+1)) #[] #[]]++lb=(Value.func (.yield (w.heap.size+1)) #[] #[]::lb.toList).toArray:=by rw [<- Array.toList_inj];simp
  rw [hargs];have book:∀ {σ:Type} {K:σ->(Nat->Prop)->World->Prop} (lo:Loop),JG w.heap.size (fun _=>False) K->JG W1.heap.size (fun _=>False) (fun s F W=>K s F W/\W.heap[w.heap.size+1]?=some (.loop lo)/\W.heap[w.heap.size]?=some (.deferred (some []))/\¬ F (w.heap.size+1)/\¬ F w.heap.size):=by
   intro σ K lo hK;refine⟨fun s F A B ⟨hk,hl,hd,hf1,hf2⟩ hs=>?_,fun s F A k ⟨hk,_⟩ hf=>hK.lt s F A k hk hf⟩;exact⟨hK.step s F A B hk (hs.mono (by omega)),(hs.same _ (hlt hl) (.inl ⟨by omega,fun h=>h⟩)).trans hl,(hs.same _ (hlt hd) (.inl ⟨by omega,fun h=>h⟩)).trans hd,hf1,hf2⟩
  have hcalls:=hI (w.heap.size+1) F0 (fun pre F W=>J pre F W/\W.heap[w.heap.size+1]?=some (.loop (rec .ready none))/\W.heap[w.heap.size]?=some (.deferred (some []))/\¬ F (w.heap.size+1)/\¬ F w.heap.size)
   W1 (by omega) (fun k hk=>by
    obtain⟨h1,h2⟩:=hRd k hk;rw [<- h2];exact hst1.block k (by omega)) hRF (book _ hJ) ?_ ⟨hJ1,hL1,hK1,fun h=>by have:=hFl _ h;omega,fun h=>by have:=hFl _ h;omega⟩
  ·refine zdZ (hcalls.mono ?_);rintro e W2 ⟨⟨v,rfl⟩,F,hj,hl,hk,hf1,hf2⟩;have hj2:=hJ.step _ _ _ _ hj (StepG.put (Ow:=fun _=>False) (o := .loop (rec .exhausted none)) (n0:=w.heap.size) (l:=w.heap.size+1) (by omega) hf1);refine⟨none,_,by have:=run_endLoop (P:=S.P) hl (by rw [hrec];simp);rw [hrec] at this;exact this,?_⟩;rw [hrec] at hj2;exact⟨⟨E.vs,{ target := .collected w.heap.size,args := #[] }::E.ds⟩,⟨ha.size,by simp [ha.defers],ha.val⟩,hdone w.heap.size F _ (Nat.le_refl _) hf2 hj2 ((zah (by omega)).trans hk)⟩
  ·rintro pre x vs F W ⟨hj,hl,hk,hf1,hf2⟩ hst0 hgv0 hpre;have hg1:¬ (F (w.heap.size+1)\/Gv vs (w.heap.size+1)):=fun h=>h.elim hf1 fun h=>by
    obtain⟨_,_,_,h2⟩:=hGv _ _ _ _ hst0 h;rw [hl] at h2;cases h2
   have hg2:¬ (F w.heap.size\/Gv vs w.heap.size):=fun h=>h.elim hf2 fun h=>by
    obtain⟨_,_,_,h2⟩:=hGv _ _ _ _ hst0 h;rw [hk] at h2;cases h2
   have hy:=run_yield (P:=S.P) (args:=vs.toArray) hl (by rw [hrec];simpa using hps _ _ _ hst0);rw [hrec] at hy;refine⟨fn,_,assign,body,hy,zdi (r:=none) (n:=NN) (roundIn_of_wpIn (F:=FR none) trivial ?_)⟩;have hag:Agrees (sr S (w.heap.size+1)) { tmps:=(ps.zip vs.toArray).foldl (fun t (p,v)=>t.setIfInBounds p v) a.tmps,defers:=[] } ⟨setL ps.toList vs E.vs,[]⟩:=by
    have h1:Agrees (sr S (w.heap.size+1)) { a with defers:=[] } ⟨E.vs,[]⟩:=⟨ha.size,rfl,ha.val⟩;have h2:=zdd ps.toList vs _ _ h1 hpn;have e:(ps.zip vs.toArray).foldl (fun t (p,v)=>t.setIfInBounds p v) a.tmps=(ps.toList.zip vs).foldl (fun t (p,v)=>t.setIfInBounds p v) a.tmps:=by
     rw [<- Array.foldl_toList];simp
    rw [e];exact h2
   have hw:=za5 (zkS hS _) assign _ _ W _ hag (hround (w.heap.size+1) pre x vs F W (by omega) hpre hj hst0 (fun k hk=>by have:=hgv0 k hk;omega) hf1 ⟨_,hl⟩);refine wpIn_mono hw ?_;rintro ex a1 Wa ⟨E1,hag1,rfl,F1,hk1,hj1,hbody⟩;have hla:=(hk1.same _ (hlt hl) hg1).trans hl;have hka:=(hk1.same _ (hlt hk) hg2).trans hk;have hfa1:¬ F1 (w.heap.size+1):=fun h=>by rcases hk1.fp _ h with h | h;exact hg1 h;have:=hlt hl;omega
   have hfa2:¬ F1 w.heap.size:=fun h=>by rcases hk1.fp _ h with h | h;exact hg2 h;have:=hlt hk;omega
   refine⟨_,run_beginRound hla (by rw [hrec]),?_⟩;have hst:StepG w.heap.size (fun _=>False) F1 Wa (Wa.putObj (w.heap.size+1) (.loop { rec .ready none with state := .busy })) := .put (by omega) hfa1 _;have hj2:=hJ.step _ _ _ _ hj1 hst;have hw2:=za5 (zkS hS _) body _ _ _ _ hag1 (hbody _ _ rfl hj2);refine wpIn_mono hw2 ?_;have hl2:(Wa.putObj (w.heap.size+1) (.loop { rec .ready none with state := .busy })).heap[w.heap.size+1]?=some (.loop { rec .ready none with state := .busy }):=zcU hla;have hk2:(Wa.putObj (w.heap.size+1) (.loop { rec .ready none with state := .busy })).heap[w.heap.size]?=some (.deferred (some [])):=(zah (by omega)).trans hka;rintro e a3 W3 ⟨E3,_,hq⟩
   cases e with
   | normal =>
    obtain⟨F3,hj3,hk3⟩:=hq;have hl3:=(hk3.same _ (hlt hl2) hfa1).trans hl2;have hd3:=(hk3.same _ (hlt hk2) hfa2).trans hk2;have hf31:¬ F3 (w.heap.size+1):=fun h=>by rcases hk3.fp _ h with h | h;exact hfa1 h;have:=hlt hl2;omega
    have hf32:¬ F3 w.heap.size:=fun h=>by rcases hk3.fp _ h with h | h;exact hfa2 h;have:=hlt hk2;omega
    have hr3:=run_endRound (P:=S.P) none hl3;have hl4:=zcU (o' := .loop (rec .ready none)) hl3;have hk4:(W3.putObj (w.heap.size+1) (.loop (rec .ready none))).heap[w.heap.size]?=some (.deferred (some [])):=(zah (by omega)).trans hd3;have hs3:StepG w.heap.size (fun _=>False) F3 W3 (W3.putObj (w.heap.size+1) (.loop (rec .ready none))) := .put (by omega) hf31 _;have hj4:=hJ.step _ _ _ _ hj3 hs3;rw [hrec] at hr3 hl4 hk4 hs3 hj4;refine⟨_,_,hr3,rfl,F3,⟨hj4,by rw [hrec];exact hl4,hk4,hf31,hf32⟩,?_⟩;refine⟨hs3.os.trans (hk3.os.trans hk1.os),hs3.tape.trans (hk3.tape.trans hk1.tape),hs3.output.trans (hk3.output.trans hk1.output),?_,fun k hk5 hf5=>?_,fun k hk5=>?_⟩
    ·have h1:=hk1.size;have h2:=hst.size;have h3:=hk3.size;have h4:=hs3.size;exact Nat.le_trans (Nat.le_trans (Nat.le_trans h1 h2) h3) h4
    ·by_cases hkl:k=w.heap.size+1
     ·subst hkl;rw [hl,hrec];exact hl4
     ·have h1:¬ F1 k:=fun h=>by rcases hk1.fp _ h with h | h;exact hf5 h;omega
      have h2:=hk1.size;have h3:=hst.size;rw [zah hkl,hk3.same k (by omega) h1,zah hkl];exact hk1.same k hk5 hf5
    ·rcases hk3.fp _ hk5 with h2 | h2
     ·exact hk1.fp _ h2
     ·have h3:=hk1.size;have h4:=hst.size;exact .inr (by omega)
   | ret=>exact (show False from (by obtain⟨_,h,_⟩:=hq;exact h)).elim
   | exit id=>exact (show False from (by obtain⟨_,h,_⟩:=hq;exact h)).elim
   | goto t=>exact hq.elim
   | panic ch=>exact hq.elim
   | outgrown=>exact hq.elim
end Go.Vc
namespace Go.Proofs.YtkpkdmipjinoaaaGreatDoor
open Go.Vc Go.RowKit Go.Sei
abbrev zgu:=List NatL×Option Addr×Nat
def rnkE:Enc zgu where
 sz:=1
 enc x:=[.slice x.2.1 x.1.length x.2.2]
 len x:=rfl
 one x v hv:=by
  simp at hv;subst hv;rfl
 pos:=by decide
structure MixM (Rd:Nat->Prop) (w:World) (b o:Nat) (m:MixD) (q:Option Addr) (c:Nat) (p1 p2 p3:Option Addr) (c1 c2 c3:Nat) (xs ys:List NatL):Prop where
 cells:zav w ⟨b,o,none⟩ (exC m.base q c++[.slice p1 m.rs.length c1,.slice p2 xs.length c2,.slice p3 ys.length c3])
 ev:SlR evE w q m.base.ev
 qn:q=none->c=0
 r1:SlR natE w p1 (m.rs.map (·.1))
 e2:xs.map (·.1)=m.rs.map (·.2)
 r2:SlR zbH w p2 xs
 n2:∀ y∈xs,SlR natE w y.2.1 y.1
 e3:ys.map (·.1)=m.wr
 r3:SlR zbH w p3 ys
 n3:∀ y∈ys,SlR natE w y.2.1 y.1
 db:Rd b
 dq:∀ a,q=some a->Rd a.block
 d1:∀ a,p1=some a->Rd a.block
 d2:∀ a,p2=some a->Rd a.block
 d3:∀ a,p3=some a->Rd a.block
 m2:∀ y∈xs,∀ a,y.2.1=some a->Rd a.block
 m3:∀ y∈ys,∀ a,y.2.1=some a->Rd a.block
theorem MixM.same {Rd:Nat->Prop} {w X:World} {b o:Nat} {m:MixD} {q:Option Addr} {c:Nat} {p1 p2 p3:Option Addr} {c1 c2 c3:Nat} {xs ys:List NatL} (h:MixM Rd w b o m q c p1 p2 p3 c1 c2 c3 xs ys) (hs:∀ k,Rd k->X.heap[k]?=w.heap[k]?):MixM Rd X b o m q c p1 p2 p3 c1 c2 c3 xs ys :=
 ⟨zaA (hs _ h.db) h.cells,zbf h.ev fun a ha=>hs _ (h.dq a ha),h.qn,zbf h.r1 fun a ha=>hs _ (h.d1 a ha),h.e2,zbf h.r2 fun a ha=>hs _ (h.d2 a ha),fun y hy=>zbf (h.n2 y hy) fun a ha=>hs _ (h.m2 y hy a ha),
  h.e3,zbf h.r3 fun a ha=>hs _ (h.d3 a ha),fun y hy=>zbf (h.n3 y hy) fun a ha=>hs _ (h.m3 y hy a ha),h.db,h.dq,h.d1,h.d2,h.d3,h.m2,h.m3⟩
theorem zf3 {w:World} {b o:Nat} {x:ExD} {q:Option Addr} {c:Nat} {S:List Value} (h:zav w ⟨b,o,none⟩ (exC x q c++S)) {i:Nat} {v:Value} (hi:S[i]?=some v):w.cell? ⟨b,o+(333+i),none⟩=some v:=zac h (zhy hi)
theorem appR {B c:Nat} {V1:World} {p:Option Addr} {l:List zgu} {y:zgu} {a:Addr} (ho:OwnS rnkE 176 B V1 p c l) (ha:zav V1 a ([y].flatMap rnkE.enc)) (hB:B<=V1.heap.size) (hl:l.length<=100000) {K:Value->World->Prop}
  (h:∀ p' c' w',OwnS rnkE 176 B w' p' c' (l++[y])->V1.grownBy w' (p.map Addr.block)->(∀ a,p'=some a->p=some a\/a.block=V1.heap.size)->K (.slice p' (l++[y]).length c') w') :
  SatR ((Builtin.append_ #[263,263] 263 #[.slice p l.length c,.slice (some a) 1 1]).run Tryz.prog V1) K :=
 zbA (E:=rnkE) (T:=176) (B:=B) (l:=l) (news:=[y]) (cap:=c) (m:=1) Tryz.underlying263 k176 rfl rfl rfl ho rfl ha hB (by omega) (by show (l.length+1)*24<=_;omega) fun p' c' w' a1 a2 _ a4=>h p' c' w' a1 (by rw [zcE] at a2;exact a2) a4
structure CanS (B:Nat) (Z:World) (yl L R:Nat) (ss:List Nat) (ps:Option Addr) (cs:Nat) (zs:List zgu) (pr:Option Addr) (cr:Nat):Prop where
 fL:Z.heap[L]?=some (.cells #[.func (.yield yl) #[] #[]] 60 (0,0))
 fR:Z.heap[R]?=some (.cells #[.slice pr zs.length cr] 263 (0,0))
 own:OwnS natE 3 B Z ps cs ss
 rk:OwnS rnkE 176 B Z pr cr zs
 n1:∀ z∈zs,OwnS zbH 149 B Z z.2.1 z.2.2 z.1
 n2:∀ z∈zs,∀ y∈z.1,OwnS natE 3 B Z y.2.1 y.2.2 y.1
 dis:∀ z∈zs,∀ y∈z.1,∀ a b,ps=some a->y.2.1=some b->a.block≠b.block
theorem CanS.below {B:Nat} {Z Y:World} {yl L R:Nat} {ss:List Nat} {ps:Option Addr} {cs:Nat} {zs:List zgu} {pr:Option Addr} {cr:Nat} (h:CanS B Z yl L R ss ps cs zs pr cr) (hb:Bw Z Y):CanS B Y yl L R ss ps cs zs pr cr :=
 ⟨zab hb h.fL,zab hb h.fR,h.own.below hb,h.rk.below hb,fun z hz=>(h.n1 z hz).below hb,fun z hz y hy=>(h.n2 z hz y hy).below hb,h.dis⟩
theorem CanS.size {B:Nat} {Z Y:World} {yl L R:Nat} {ss:List Nat} {ps:Option Addr} {cs:Nat} {zs:List zgu} {pr:Option Addr} {cr:Nat} (h:CanS B Z yl L R ss ps cs zs pr cr) {ps':Option Addr} {cs' n:Nat} (ho:OwnS natE 3 B Y ps' cs' (ss++[n])) (g:Z.grownBy Y (ps.map Addr.block)) (hat:∀ a,ps'=some a->ps=some a\/a.block=Z.heap.size):CanS B Y yl L R (ss++[n]) ps' cs' zs pr cr :=
 ⟨zaT h.fL h.own (by decide) g,zaT h.fR h.own (by decide) g,ho,zb3 h.rk h.own (by decide) g,fun z hz=>zb3 (h.n1 z hz) h.own (by decide) g,fun z hz y hy=>zez (h.n2 z hz y hy) g fun a b ha hb=>h.dis z hz y hy a b ha hb,fun z hz y hy a b ha hb=>by
  rcases hat a ha with h1 | h1
  ·exact h.dis z hz y hy a b h1 hb
  ·have:=(zau (h.n2 z hz y hy) hb).2.1;omega⟩
theorem zmi {ds:List Nat}:∀ {rs:List (Nat×List Nat)} {ds:List Nat} {f:Nat->Nat},WrdR f->(∀ r∈rs,r.1<48)->WrdR (rfF rs ds f)
 | [],_,_,h,_=>h
 | (r,s)::rs,ds,f,h,hr=>by
  have h1:=hr (r,s) List.mem_cons_self;refine zmi (rs:=rs) (ds:=ds.tail) (f:=upd f (s.getD (ds.headD 0) 0) (f (s.getD (ds.headD 0) 0)|||2^r)) ?_ fun x hx=>hr x (List.mem_cons_of_mem _ hx);intro j hj;by_cases e:j=s.getD (ds.headD 0) 0
  ·rw [e,zbo];exact Nat.or_lt_two_pow (by rw [<- e];exact h j hj) (zaN (by have:r<48:=h1;omega))
  ·rw [zcN _ _ e];exact h j hj
theorem znu {ev:List Ev}:∀ {Rs:List (List (List Nat))} {l:Nat} {ds:List Nat} {p:RelD×(Nat->UInt8)},WrdR p.1.to->(∀ R∈Rs,∀ k∈R,∀ a∈k,a<48)->WrdR (coG ev l Rs ds p).1.to
 | [],_,_,_,h,_=>h
 | R::Rs,l,ds,p,h,hr=>by
  refine znu (Rs:=Rs) (l:=l+1) (ds:=ds.tail) (p:=(zdK (R.getD (ds.headD 0) []) p.1,_)) ?_ fun x hx=>hr x (List.mem_cons_of_mem _ hx);refine ziJ h fun a ha=>?_;rw [gDe] at ha
  cases hg:R[ds.headD 0]? with
  | none=>rw [hg] at ha;cases ha
  | some k =>
   rw [hg] at ha;exact hr R List.mem_cons_self k (List.mem_of_getElem? hg) a ha
section
variable (x:ExD) (q:Option Addr) (c:Nat)
theorem zps:∃ A Z,A.length=50/\∀ r,exC { x with rf:=r } q c=A++(relC r++Z):=by
 obtain⟨A,Z,h1,h2⟩:=zr6 x q c [];exact⟨A,Z,h1,fun r=>by rw [<- h2,List.append_nil]⟩
theorem zm8:∃ A Z,A.length=99/\∀ r,exC { x with co:=r } q c=A++(relC r++Z):=by
 obtain⟨A,Z,h1,h2⟩:=zr9 x q c [];exact⟨A,Z,h1,fun r=>by rw [<- h2,List.append_nil]⟩
theorem zqK {l:Nat} (hl:l<6) (v:UInt8):(exC x q c).set (327+l) (u8 v)=exC { x with mem:=upd x.mem l v } q c:=by
 obtain⟨A,Z,h1,h2⟩:=zpr x q c [];have e1:=h2 x.mem;have e2:=h2 (upd x.mem l v);rw [List.append_nil] at e1 e2;rw [e2];show (exC { x with mem:=x.mem } q c).set _ _=_;rw [e1,zbS h1];have e3:=zfJ (B:=Z) (f:=fun i=>u8 (x.mem i)) (fun i=>u8 (upd x.mem l v i)) hl (fun j hj=>by rw [zcN _ _ hj]);rw [<- e3,zbo]
theorem zsb (l:List Ev) (q':Option Addr) (c':Nat):(exC x q c).set 0 (.slice q' l.length c')=exC { x with ev:=l } q' c':=rfl
end
abbrev exE3:=ExD×Option Addr×Nat
def exE:Enc exE3:=⟨fun x=>exC x.1 x.2.1 x.2.2,333,fun _=>zaB ..,by decide,fun a u hu=>List.all_eq_true.1 (zem ..) u hu⟩
abbrev ExH (X:World) (b:Nat) (x:ExD) (q:Option Addr) (c:Nat):Prop:=X.heap[b]?=some (.cells (exC x q c).toArray 47 (0,0))
def StX (B:Nat) (pre:List ExD) (vs:List Value) (W:World):Prop:=∃ x q c,pre.getLast?=some x/\vs=[.agg (exC x q c).toArray]/\OwnS evE 208 B W q c x.ev
def GvX (vs:List Value) (k:Nat):Prop:=∃ (x:ExD) (a:Addr) (c:Nat),vs=[.agg (exC x (some a) c).toArray]/\k=a.block
theorem zkZ {xs:List NatL} {rs:List (Nat×List Nat)} (h:xs.map (·.1)=rs.map (·.2)):xs.map (·.1.length)=rs.map fun r=>r.2.length:=by
 have:=congrArg (List.map List.length) h;rw [List.map_map,List.map_map] at this;exact this
theorem zja {zs:List zgu} {ws:List (List Nat)} (h:zs.map (fun z=>z.1.map (·.1))=ws.map zc1):zs.map (·.1.length)=ws.map fun w=>(zc1 w).length:=by
 have:=congrArg (List.map List.length) h;rw [List.map_map,List.map_map] at this;rw [<- show zs.map (List.length ∘ fun z:zgu=>z.1.map (·.1))=zs.map (·.1.length) from List.map_congr_left fun z _=>List.length_map _];exact this
section
variable {Rd:Nat->Prop} {W0:World} {bx b o:Nat} {m:MixD} {q:Option Addr} {c:Nat} {p1 p2 p3:Option Addr} {c1 c2 c3:Nat} {xs ys:List NatL}
theorem zq6 (hM:MixM Rd W0 b o m q c p1 p2 p3 c1 c2 c3 xs ys) (fx:W0.heap[bx]?=some (.cells #[.pointer (some ⟨b,o,none⟩)] 262 (0,0))) (hbx:Rd bx) (hRd:∀ k,Rd k->k<W0.heap.size) (hT:Tz64M W0) (hRt:Rd 5) (hB:MixB m) (hev:m.base.ev.length<=48) :
  zrl Tryz.prog 171 [At0 bx] (zgZ m) W0 Rd (StX W0.heap.size) GvX:=by
 intro yl F0 J W hsz hrd hrf hJ hy h0;refine cofM 141 [.func (.yield yl) #[] #[],At0 bx] (.c .p (.s .p (.c .p (.c .p (.c .p (.s .p .p)))))) Tryz.func171 ?_;have hMW:=hM.same hrd;have fxW:=(hrd bx hbx).trans fx;have hTW:Tz64M W:=zbZ hT (hrd _ hRt);have hRW:∀ k,Rd k->k<W.heap.size:=fun k hk=>by have:=hRd k hk;omega
 obtain⟨L,hL⟩:=nm (W.heap.size);have hxl:xs.length=m.rs.length:=by have:=congrArg List.length hM.e2;simpa using this
 have hyl:ys.length=m.wr.length:=by have:=congrArg List.length hM.e3;simpa using this
 have hrl48:=hB.rl;have hwl6:=hB.wl;have hx1:∀ y∈xs,y.1.length<=1000:=fun y hy=>by
  have:y.1∈m.rs.map (·.2):=by rw [<- hM.e2];exact List.mem_map.2 ⟨y,hy,rfl⟩
  obtain⟨r,hr,he⟩:=List.mem_map.1 this;rw [<- he];exact (hB.rs r hr).2.1
 refine⟨Unit,fun _=>⟨[(1,At0 bx),(2,At0 L)],[]⟩,fun _ X=>X.heap[L]?=some (.cells #[.func (.yield yl) #[] #[]] 60 (0,0))/\X.heap.size=L+1/\Bw W X,?_,?_⟩
 ·exact⟨(),⟨.cons rfl (.cons (by rw [hL];rfl) .nil),rfl⟩,by rw [hL];exact hnew W _,by rw [hL];exact wz _ _,(zba W _)⟩
 rintro _ X ⟨fL,sX,hbX⟩;refine⟨Option Addr×Nat,fun s=>⟨[(1,At0 bx),(2,At0 L),(3,.slice s.1 (xs.map (·.1.length)).length s.2)],[]⟩,fun s Z=>OwnS natE 3 W.heap.size Z s.1 s.2 (xs.map (·.1.length))/\Z.heap[L]?=some (.cells #[.func (.yield yl) #[] #[]] 60 (0,0))/\Bw W Z,?_,?_⟩
 ·refine⟨_,zac (zaa (zab hbX fxW)) (i:=0) rfl,?_⟩;refine⟨_,zf3 (hMW.same fun k hk=>hbX.block k (hRW k hk)).cells (i:=1) rfl,?_⟩;refine⟨Nat×Option Addr×Nat,fun s=>⟨[(1,At0 bx),(2,At0 L),(3,.slice s.2.1 ((xs.take s.1).map (·.1.length)).length s.2.2),(20,.slice p2 xs.length c2),(21,i64 xs.length),(22,i64 (s.1:Nat))],[]⟩,
   fun s Z=>s.1<=xs.length/\OwnS natE 3 W.heap.size Z s.2.1 s.2.2 ((xs.take s.1).map (·.1.length))/\Z.heap[L]?=some (.cells #[.func (.yield yl) #[] #[]] 60 (0,0))/\Bw W Z,fun s=>xs.length-s.1,(0,none,0),
   (cvE rfl rfl),⟨Nat.zero_le _,OwnS.nil,fL,hbX⟩,?_⟩
  rintro⟨k,ps,cs⟩ Z ⟨hk,ho,fL,hbZ⟩;dsimp only at hk ho ⊢;refine biE (fun hc=>?_) fun hc=>?_
  ·have hc:(k:Int)<(xs.length:Int):=dT hc;have hkl:k<xs.length:=by omega
   have hZM:=hMW.same fun k hk=>hbZ.block k (hRW k hk);obtain⟨x,hx⟩:∃ x,xs[k]=x:=⟨_,rfl⟩;obtain⟨bp,op,hpe,hlp,hat⟩:=hZM.r2.at hkl;subst hpe;refine⟨k,rfl,hkl,?_⟩;refine⟨slV x,by rw [<- hx];exact zac (hat k hkl) (i:=0) rfl,?_⟩;refine⟨⟨by decide,by decide,rfl⟩,natE.enc x.1.length,rfl,?_⟩;have hb1:Bw Z (Z.alloc (.cells (natE.enc x.1.length).toArray 3)):=zba _ _;have hZs:=hbZ.size;have htl:((xs.take k).map (·.1.length)).length=k:=by rw [List.length_map,List.length_take];omega
   have htk:(xs.take (k+1)).map (·.1.length)=(xs.take k).map (·.1.length)++[x.1.length]:=by
    rw [tsg hkl,List.map_append,hx];rfl
   unfold opsE zc6;show SatR _ _;refine appI (ho.below hb1) (zbi natE x.1.length) (by have:=hb1.size;omega) (by have:=hB.rl;omega) fun p' c' U oU gU hat1=>?_;rw [zcE] at gU;rw [<- htk] at oU ⊢;have fU:=zaT (zab hb1 fL) (ho.below hb1) (by decide) gU;refine nxI (by omega) ?_;exact⟨(k+1,p',c'),(cvE rfl rfl),⟨hkl,oU,fU,hbZ.trans ((hb1.mono hZs).trans (zbh (ho.below hb1) (by have:=hb1.size;omega) (Nat.le_refl _) gU))⟩,zdc (by omega)⟩
  ·have hc:¬ (k:Int)<(xs.length:Int):=dF hc;obtain rfl:k=xs.length:=by omega
   rw [List.take_length] at ho ⊢;exact⟨(ps,cs),(cvE rfl rfl),ho,fL,hbZ⟩
 clear fL sX hbX;rintro⟨ps,cs⟩ X ⟨ho,fL,hbX⟩;dsimp only at ho ⊢;refine⟨Nat,fun R=>⟨[(1,At0 bx),(2,At0 L),(3,.slice ps (xs.map (·.1.length)).length cs),(6,At0 R)],[]⟩,fun R Z=>CanS W.heap.size Z yl L R (xs.map (·.1.length)) ps cs [] none 0/\L<R/\Bw W Z,?_,?_⟩
 ·refine⟨X.heap.size,(cvE rfl rfl),⟨hold _ fL,hnew X _,ho.alloc _,OwnS.nil,fun z hz=>(by cases hz),fun z hz=>(by cases hz),fun z hz=>(by cases hz)⟩,hlt fL,hbX.alloc hbX.size _⟩
 clear ho fL hbX;rintro R X ⟨hS,hLR,hbX⟩;refine⟨(List zgu×Option Addr×Nat)×Option Addr×Nat,fun s=>⟨[(1,At0 bx),(2,At0 L),(3,.slice s.2.1 (zdv m).length s.2.2),(6,At0 R)],[]⟩,fun s Z=>CanS W.heap.size Z yl L R (zdv m) s.2.1 s.2.2 s.1.1 s.1.2.1 s.1.2.2/\s.1.1.map (fun z=>z.1.map (·.1))=m.wr.map zc1/\Bw W Z,?_,?_⟩
 ·refine⟨_,zac (zaa (zab hbX fxW)) (i:=0) rfl,?_⟩;refine⟨_,zf3 (hMW.same fun k hk=>hbX.block k (hRW k hk)).cells (i:=2) rfl,?_⟩;refine⟨Nat×(List zgu×Option Addr×Nat)×Option Addr×Nat,fun s=>⟨[(1,At0 bx),(2,At0 L),(3,.slice s.2.2.1 (xs.map (·.1.length)++s.2.1.1.map (·.1.length)).length s.2.2.2),(6,At0 R),(35,.slice p3 ys.length c3),(36,i64 ys.length),(37,i64 (s.1:Nat))],[]⟩,
   fun s Z=>s.1<=ys.length/\CanS W.heap.size Z yl L R (xs.map (·.1.length)++s.2.1.1.map (·.1.length)) s.2.2.1 s.2.2.2 s.2.1.1 s.2.1.2.1 s.2.1.2.2/\s.2.1.1.map (fun z=>z.1.map (·.1))=(ys.take s.1).map (fun y=>zc1 y.1)/\Bw W Z,fun s=>ys.length-s.1,(0,([],none,0),ps,cs),
   ⟨.cons rfl (.cons rfl (.cons (by simp;rfl) (.cons rfl (.cons rfl (.cons rfl (.cons rfl .nil)))))),rfl⟩,⟨Nat.zero_le _,by simpa using hS,rfl,hbX⟩,?_⟩
  clear hS hbX;rintro⟨k,⟨zs,pr,cr⟩,ps,cs⟩ Z ⟨hk,hS,hz,hbZ⟩;dsimp only at hk hS hz ⊢;have hzl:zs.length=k:=by
   have:=congrArg List.length hz;rw [List.length_map,List.length_map,List.length_take] at this;omega
  refine biE (fun hc=>?_) fun hc=>?_
  ·have hc:(k:Int)<(ys.length:Int):=dT hc;have hkl:k<ys.length:=by omega
   have hZM:=hMW.same fun k hk=>hbZ.block k (hRW k hk);obtain⟨y,hyk⟩:∃ y,ys[k]=y:=⟨_,rfl⟩;have hym:y∈ys:=by rw [<- hyk];exact gM hkl
   have hyw:y.1∈m.wr:=by rw [<- hM.e3];exact List.mem_map.2 ⟨y,hym,rfl⟩
   obtain⟨bw1,bw2,bw3⟩:=hB.wr _ hyw;obtain⟨bp,op,hpe,hlp,hat⟩:=hZM.r3.at hkl;subst hpe;refine⟨k,rfl,hkl,?_⟩;refine⟨slV y,by rw [<- hyk];exact zac (hat k hkl) (i:=0) rfl,?_⟩;refine cmo (zos (hZM.n3 y hym) bw1 (zbZ hTW (hbZ.block _ (hRW _ hRt)))) ?_;rintro e Y ⟨⟨rk,pk,ck,rfl,hrk,ork,onk⟩,hbY⟩;have hZs:=hbZ.size;have hSY:=hS.below hbY;have hrkl:rk.length<=10000:=by rw [<- hrk,List.length_map] at bw2;exact bw2
   obtain⟨nz,hnz⟩:∃ nz:zgu,nz=(rk,pk,ck):=⟨_,rfl⟩;have hen:[Value.slice pk rk.length ck]=rnkE.enc nz:=by rw [hnz];rfl
   refine⟨_,zac (zaa hSY.fR) (i:=0) rfl,?_⟩;refine⟨⟨by decide,by decide,rfl⟩,rnkE.enc nz,by rw [<- hen];rfl,?_⟩;have hb1:Bw Y (Y.alloc (.cells (rnkE.enc nz).toArray 176)):=zba _ _;have hS1:=hSY.below hb1;have ork1:=ork.below hb1;have onk1:=fun x hx=>(onk x hx).below hb1;unfold opsE zc6;show SatR _ _;refine appR hS1.rk (zbi rnkE nz) (by have:=hb1.size;have:=hbY.size;omega) (by have:=hB.wl;omega) fun p' c' U oU gU hat1=>?_;have fLU:=zaT hS1.fL hS1.rk (by decide) gU;have fRU:=zaT hS1.fR hS1.rk (by decide) gU;refine zaq k263 fRU (o:=0) (v := .slice p' (zs++[nz]).length c') rfl rfl (by show 0<1;decide) rfl fun S fS gS sS=>?_;have hbZY:=hbZ.trans (hbY.mono hZs);have sY:=hbY.size;have sb1:=hb1.size;have hbU:Bw W U:=(hbZY.trans (hb1.mono (by omega))).trans (zbh hS1.rk (by omega) (Nat.le_refl _) gU);have hRn:W.heap.size<=R:=by omega
   have hbS:Bw W S:=hbU.trans (zak gS hbU.size hRn);have hSS:CanS W.heap.size S yl L R (xs.map (·.1.length)++zs.map (·.1.length)) ps cs (zs++[nz]) p' c':=by
    have kU:∀ {α:Type} {E:Enc α} {T cc:Nat} {r:Option Addr} {ll:List α},T≠176->T≠263->OwnS E T W.heap.size (Y.alloc (.cells (rnkE.enc nz).toArray 176)) r cc ll->OwnS E T W.heap.size S r cc ll:=fun {α E T cc r ll} h1 h2 h=>zaV (zb3 h hS1.rk h1 gU) fRU h2 gS;refine⟨(gS.block L (hlt fLU) (by simp;omega)).trans fLU,fS,kU (by decide) (by decide) hS1.own,zaV oU fRU (by decide) gS,fun z hz=>?_,fun z hz=>?_,fun z hz=>?_⟩
    ·rcases List.mem_append.1 hz with hz | hz
     ·exact kU (by decide) (by decide) (hS1.n1 z hz)
     ·rw [List.mem_singleton.1 hz,hnz];exact kU (by decide) (by decide) (ork1.lower hZs)
    ·rcases List.mem_append.1 hz with hz | hz
     ·exact fun x hx=>kU (by decide) (by decide) (hS1.n2 z hz x hx)
     ·rw [List.mem_singleton.1 hz,hnz];exact fun x hx=>kU (by decide) (by decide) ((onk1 x hx).lower hZs)
    ·rcases List.mem_append.1 hz with hz | hz
     ·exact hS1.dis z hz
     ·rw [List.mem_singleton.1 hz,hnz];intro x hx a b ha hb;have:=(zau (onk x hx) hb).1;have:=(zau hS.own ha).2.1;omega
   clear hS1 ork1 onk1 hSY hS oU gU hat1 fLU fRU fS gS;refine⟨⟨by decide,by decide,rfl⟩,natE.enc rk.length,rfl,?_⟩;have hb2:Bw S (S.alloc (.cells (natE.enc rk.length).toArray 3)):=zba _ _;have hS2:=hSS.below hb2;have sbS:=hbS.size;have sb2:=hb2.size;unfold opsE zc6;show SatR _ _;refine appI hS2.own (zbi natE rk.length) (by omega) (by rw [lap,List.length_map,List.length_map];have:=hB.rl;have:=hB.wl;omega) fun p2' c2' V oV gV hat2=>?_;rw [zcE] at gV;have hSV:=hS2.size oV gV hat2;have hzz:(xs.map (·.1.length)++zs.map (·.1.length))++[rk.length]=xs.map (·.1.length)++(zs++[nz]).map (·.1.length):=by
    rw [List.map_append,List.append_assoc,hnz];rfl
   rw [hzz] at hSV ⊢;refine nxI (by omega) ?_;refine⟨(k+1,(zs++[nz],p',c'),p2',c2'),(cvE rfl rfl),⟨hkl,hSV,?_,hbS.trans ((hb2.mono sbS).trans (zbh hS2.own (by omega) (Nat.le_refl _) gV))⟩,zdc (by omega)⟩;rw [tsg hkl,hyk,List.map_append,List.map_append,hz,hnz];show _++[rk.map (·.1)]=_++[zc1 y.1];rw [hrk]
  ·have hc:¬ (k:Int)<(ys.length:Int):=dF hc;obtain rfl:k=ys.length:=by omega
   have hz2:zs.map (fun z=>z.1.map (·.1))=m.wr.map zc1:=by
    rw [List.take_length] at hz;rw [hz,<- hM.e3,List.map_map];rfl
   have hsz2:xs.map (·.1.length)++zs.map (·.1.length)=zdv m:=by
    rw [zkZ hM.e2,zja hz2];rfl
   rw [hsz2] at hS ⊢;exact⟨((zs,pr,cr),ps,cs),(cvE rfl rfl),hS,hz2,hbZ⟩
 clear hS hbX;rintro⟨⟨zs,pr,cr⟩,ps,cs⟩ V ⟨hS,hz,hbV⟩;dsimp only at hS hz ⊢;have hVs:=hbV.size;have hMV:=hMW.same fun k hk=>hbV.block k (hRW k hk);have fxV:=zab hbV fxW;have hsl1:(zdv m).length<=1000:=by
  unfold zdv;rw [lap,List.length_map,List.length_map];omega
 have hsl2:∀ n∈zdv m,n<=1000000:=fun n hn=>by
  unfold zdv at hn;rcases List.mem_append.1 hn with hn | hn
  ·obtain⟨r,hr,rfl⟩:=List.mem_map.1 hn;have:=(hB.rs r hr).2.1;omega
  ·obtain⟨w,hw,rfl⟩:=List.mem_map.1 hn;have:=(hB.wr w hw).2.1;omega
 refine cmo zph ?_;rintro e V1 ⟨rfl,fo,sV1,hbV1⟩;have hI:=zrP fo (hS.own.row.below hbV1) (fun a ha=>by have:=(zau hS.own ha).2.1;omega) hsl1 hsl2;obtain⟨Kp,hKp⟩:∃ Kp:(Nat->Prop)->World->Prop,Kp=fun F Y=>V1.heap.size<=Y.heap.size/\∀ k,k<V.heap.size->(Rd k\/W.heap.size<=k)->Y.heap[k]?=V.heap[k]?/\¬ F k:=⟨_,rfl⟩;have hF0:∀ k,F0 k->k<W.heap.size:=fun k hk=>(hJ.lt _ _ _ _ h0 hk).1;have hLV:=hlt hS.fL;have hRV:=hlt hS.fR;have hb1:Bw W V1:=hbV.trans (hbV1.mono hVs);refine zfd (sgOk _) rfl (lb := #[At0 V.heap.size]) rfl rfl hI (Nat.le_refl _) (fun k hk=>⟨?_,rfl⟩) (fun pre vs W ⟨l,q,_,h,_⟩=>by rw [h];rfl) (by decide)
  F0 (fun pre F Y=>J (pre.map (zdw m)) F Y/\Kp F Y) (fun _ _ _ _=>False) (fun k hk=>?_) ⟨?_,?_⟩ (fun ex=>⟨fun _ _ _ _ h=>h.elim,fun _ _ _ _ h=>h.elim⟩) ⟨hJ.step _ _ _ _ h0 (.below hb1),?_⟩ ?_ ?_ ?_
 ·rcases hk with (rfl | ⟨a,ha,rfl⟩) | h
  ·omega
  ·have:=(zau hS.own ha).2.1;omega
  ·exact h.elim
 ·rcases hk with rfl | ⟨a,ha,rfl⟩
  ·intro h;have:=hF0 _ h;omega
  ·intro h;have:=hF0 _ h;have:=(zau hS.own ha).1;omega
 ·rintro pre F A C ⟨hj,hk⟩ hs;rw [hKp] at hk ⊢;have hss:=hs.size;exact⟨hJ.step _ _ _ _ hj (hs.mono (by omega)),Nat.le_trans hk.1 hss,fun k h1 h2=>⟨(hs.same k (by have:=hk.1;omega) (.inl ⟨by omega,fun h=>h⟩)).trans (hk.2 k h1 h2).1,(hk.2 k h1 h2).2⟩⟩
 ·rintro pre F A k ⟨hj,_⟩ hk;exact hJ.lt _ _ _ _ hj hk
 ·rw [hKp];refine⟨Nat.le_refl _,fun k h1 h2=>⟨hbV1.block k h1,fun h=>?_⟩⟩;rcases h2 with h2 | h2
  ·exact hrf k h2 h
  ·have:=hF0 k h;omega
 ·rintro yl2 pre ds vs F Y hyl hpre hJ0 ⟨l,qd,hlast,rfl,hsl,hcel⟩ hfy ⟨lo,hlo⟩;have hdx:ds=l:=by simpa using hlast
  subst hdx;refine⟨rfl,F,KeepsG.refl _ _,hJ0,?_⟩;rintro O Y2 hY2 ⟨hj,hkp⟩;rw [hKp] at hkp;obtain⟨hY2s,hkp⟩:=hkp;have hkq:=hkp;have hslY:SlR natE Y2 qd ds:=by
   rw [hY2];refine zbf hsl fun a ha=>zah fun e=>?_;obtain⟨cur,hcur⟩:=hcel a ha;rw [e,hlo] at hcur
   cases hcur
  obtain⟨hdl,hdlt⟩:=znk (hpre.subset (List.mem_append_right _ (List.mem_singleton.2 rfl)));have hdl2:ds.length=m.rs.length+m.wr.length:=by
   rw [hdl];unfold zdv;rw [lap,List.length_map,List.length_map]
  have hMY:MixM Rd Y2 b o m q c p1 p2 p3 c1 c2 c3 xs ys:=hMV.same fun k hk=>(hkp k (by have:=hRW k hk;omega) (.inl hk)).1;have fxY:=(hkp bx (by have:=hRW bx hbx;omega) (.inl hbx)).1.trans fxV;have fLY:=(hkp L hLV (.inr (by omega))).1.trans hS.fL;have fRY:=(hkp R hRV (.inr (by omega))).1.trans hS.fR;have kR:∀ {α:Type} {E:Enc α} {T cc:Nat} {r:Option Addr} {ll:List α},OwnS E T W.heap.size V r cc ll->OwnS E T W.heap.size Y2 r cc ll:=fun {α E T cc r ll} h=>h.same fun a ha=>(hkp _ (zau h ha).2.1 (.inr (zau h ha).1)).1;have rkY:=kR hS.rk;have n1Y:=fun z hz=>kR (hS.n1 z hz);have n2Y:=fun z hz y hy=>kR (hS.n2 z hz y hy);clear hkp hlo hcel hsl;have hbY:b<Y2.heap.size:=by have:=hRW b hM.db;omega
  refine⟨_,zac (zaa fxY) (i:=0) rfl,?_⟩;have hbase:zav Y2 ⟨b,o,none⟩ (exC m.base q c):=by
   have:=zaF (n:=0) (m:=333) hMY.cells;rw [List.drop_zero,List.take_append_of_le_length (by rw [zaB];decide),List.take_of_length_le (by rw [zaB];decide)] at this;exact this
  refine⟨exC m.base q c,zaB _ _ _,hbase,hbY,?_⟩;obtain⟨M,hMM⟩:=nm (Y2.heap.size);refine zal (X:=Y2) (v := .agg (exC m.base q c).toArray) k47 (zaB _ _ _) zc9 (zem _ _ _) fun Z hbZ fZ sZ=>?_;have fZ:ExH Z Y2.heap.size m.base q c:=fZ;rw [<- hMM] at fZ ⊢;refine⟨_,zac (zaa fZ) (i:=0) rfl,?_⟩;refine cmo (ziZ (hMY.ev.below hbZ) (by omega) hMY.qn) ?_;rintro e Z2 ⟨⟨q1,k1,rfl,oE⟩,hbZ2⟩;refine zaq k35 (zab hbZ2 fZ) (o:=0+0) (v := .slice q1 m.base.ev.length k1) rfl rfl (by rw [zaB];decide) rfl fun S fS gS sS=>?_;rw [show 0+0=0 from rfl,zsb] at fS;have hMZ2:M<Z2.heap.size:=by have:=hbZ2.size;omega
  have hbS:Bw Y2 S:=((zst hbZ hbZ2)).trans (zak gS (by omega) (by omega));have oES:OwnS evE 208 Y2.heap.size S q1 k1 m.base.ev:=zaV (oE.lower hbZ.size) (zab hbZ2 fZ) (by decide) gS;clear oE gS sS fZ hbZ hbZ2;have tMY:∀ {S:World},Bw Y2 S->MixM Rd S b o m q c p1 p2 p3 c1 c2 c3 xs ys:=fun {S} hb=>hMY.same fun k hk=>hb.block k (by have:=hRW k hk;omega);have hxlen:=hxl;refine⟨_,zac (zaa (zab hbS fxY)) (i:=0) rfl,?_⟩;refine⟨_,zf3 (tMY hbS).cells (i:=0) rfl,?_⟩;refine⟨Nat,fun k=>⟨[(1,At0 bx),(2,At0 L),(6,At0 R),(10,.slice qd ds.length ds.length),(11,At0 M),(67,.slice p1 m.rs.length c1),(68,i64 m.rs.length),(69,i64 (k:Nat))],[]⟩,
   fun k Z=>k<=m.rs.length/\ExH Z M { m.base with rf:=⟨m.base.rf.n,rfF (m.rs.take k) ds m.base.rf.to⟩ } q1 k1/\OwnS evE 208 Y2.heap.size Z q1 k1 m.base.ev/\Bw Y2 Z,fun k=>m.rs.length-k,0,
   (cvE rfl rfl),⟨Nat.zero_le _,fS,oES,hbS⟩,?_⟩
  clear fS oES hbS;rintro k Z ⟨hk,fZ,oE,hbZ⟩;refine biE (fun hc=>?_) fun hc=>?_
  ·have hc:(k:Int)<(m.rs.length:Int):=dT hc;have hkl:k<m.rs.length:=by omega
   have hZM:=tMY hbZ;have hZs:=hbZ.size;obtain⟨⟨r,s⟩,hrs⟩:∃ x,m.rs[k]=x:=⟨_,rfl⟩;obtain⟨hr48,hs1,hs48⟩:=hB.rs (r,s) (by rw [<- hrs];exact gM hkl);dsimp only at hr48 hs1 hs48;have hkx:k<xs.length:=by omega
   obtain⟨y,hyk⟩:∃ y,xs[k]=y:=⟨_,rfl⟩;have hym:y∈xs:=by rw [<- hyk];exact gM hkx
   have hys:y.1=s:=by
    have h1:(xs.map (·.1))[k]?=some y.1:=(by rw [List.getElem?_map,gE hkx,hyk];rfl);rw [hM.e2,List.getElem?_map,gE hkl,hrs] at h1;exact (Option.some.inj h1).symm
   obtain⟨d,hd⟩:∃ d,ds[k]?=some d:=⟨_,gE (by omega)⟩;have hkd:k<ds.length:=by omega
   have hde:ds[k]=d:=by rw [gE hkd] at hd;exact Option.some.inj hd
   have hdlt2:d<y.1.length:=by
    refine hdlt k _ d ?_ hd;unfold zdv;rw [List.getElem?_append_left (by rw [List.length_map];exact hkl),List.getElem?_map,gE hkl,hrs,hys];rfl
   have hdlt3:d<s.length:=by rw [<- hys];exact hdlt2
   obtain⟨t,ht⟩:∃ t,y.1[d]=t:=⟨_,rfl⟩;have hts:s[d]=t:=by
    have h1:y.1[d]?=some t:=(by rw [gE hdlt2,ht]);rw [hys,gE hdlt3] at h1;exact Option.some.inj h1
   have ht48:t<48:=hs48 t (by rw [<- hts];exact gM hdlt3);have hgt:s.getD (ds.getD k 0) 0=t:=by
    rw [gDe,gDe,hd];show (s[d]?).getD 0=t;rw [gE hdlt3,hts];rfl
   have htk:rfF (m.rs.take (k+1)) ds m.base.rf.to=upd (rfF (m.rs.take k) ds m.base.rf.to) t (rfF (m.rs.take k) ds m.base.rf.to t|||2^r):=by
    rw [tsg hkl,hrs,zj8,List.length_take,Nat.min_eq_left hk,hgt]
   obtain⟨G,hG⟩:=nm (rfF (m.rs.take k) ds m.base.rf.to);have hGw:WrdR G:=by
    rw [hG];exact zmi (ds:=[]) hB.rf fun r hr=>(hB.rs r (List.mem_of_mem_take hr)).1
   rw [<- hG] at fZ htk;obtain⟨A,T,hA,hE⟩:=zps { m.base with rf:=⟨m.base.rf.n,G⟩ } q1 k1;have hRel:RelAt Z M 50 47 A T ⟨m.base.rf.n,G⟩:=⟨hA,by rw [<- hE];exact fZ⟩;have hr1:k<(m.rs.map (·.1)).length:=by rw [List.length_map];exact hkl
   obtain⟨b1,o1,hp1,hl1,hat1⟩:=hZM.r1.at hr1;obtain⟨b2,o2,hp2,hl2,hat2⟩:=hZM.r2.at hkx;obtain⟨b3,o3,hp3,hl3,hat3⟩:=(hZM.n2 y hym).at hdlt2;have hslZ:=hslY.below hbZ;obtain⟨b4,o4,hp4,hl4,hat4⟩:=hslZ.at hkd;have e1:some (Value.slice p1 m.rs.length c1)=some (Value.slice (some ⟨b1,o1,none⟩) m.rs.length c1):=by rw [hp1]
   subst hp1;subst hp2;subst hp4;refine⟨k,rfl,hkl,?_⟩;refine⟨i64 r,by have:=zac (hat1 k hr1) (i:=0) (v:=i64 r) (by rw [List.getElem_map,hrs];rfl);exact this,?_⟩;have dZ:Bw Z Z.drew:=(Below.refl _ _).drew;refine DrawE.ord [23] [0,1,2,3,4,5,6,7,8,9,10,11,12,13,14,15,16,17,18,19,20,21,22,23] (by kernel_rfl) ?_;refine⟨_,zac (zaa (hdr (zab hbZ fxY))) (i:=0) rfl,?_⟩;refine⟨_,zf3 (hZM.same (X:=Z.drew) fun _ _=>rfl).cells (i:=1) rfl,?_⟩;refine⟨k,rfl,hkx,?_⟩;refine⟨slV y,by have:=zac (zar dZ (hat2 k hkx)) (i:=0) (v:=slV y) (by rw [hyk];rfl);exact this,?_⟩;refine⟨k,rfl,hkd,?_⟩;refine⟨i64 d,by have:=zac (zar dZ (hat4 k hkd)) (i:=0) (v:=i64 d) (by rw [hde];rfl);exact this,?_⟩;unfold slV;rw [hp3];refine⟨d,rfl,hdlt2,?_⟩;refine⟨i64 t,by have:=zac (zar dZ (hat3 d hdlt2)) (i:=0) (v:=i64 t) (by rw [ht];rfl);exact this,?_⟩;refine⟨t,rfl,ht48,?_⟩;refine⟨s64 (G t),(hRel.same (Y:=Z.drew) rfl).cell ht48,?_⟩;refine⟨by omega,_,zbX (e:=r) (by omega),?_⟩;refine⟨_,zcA (hGw t ht48) (zaN (by omega)),?_⟩;refine⟨t,rfl,ht48,?_⟩;refine zaq k37 (hRel.same (Y:=Z.drew) rfl).cells (o:=50+1+t*1) (v:=s64 (G t|||2^r)) rfl rfl (by rw [hRel.len];omega) rfl fun S fS gS sS=>?_;rw [hRel.set ht48] at fS;have gS2:Z.grownBy S (some M):=zaf (zag dZ) gS;refine nxI (by omega) ?_;refine⟨k+1,(cvE rfl rfl),⟨hkl,?_,zaV oE fZ (by decide) gS2,hbZ.trans (zak gS2 hZs (by omega))⟩,zdc (by omega)⟩;rw [htk];have e5:=hE ⟨m.base.rf.n,upd G t (G t|||2^r)⟩;show S.heap[M]?=some (.cells (exC { m.base with rf:=⟨m.base.rf.n,upd G t (G t|||2^r)⟩ } q1 k1).toArray _ _);exact fS.trans (by rw [<- e5])
  have hc:¬ (k:Int)<(m.rs.length:Int):=dF hc;obtain rfl:k=m.rs.length:=by omega
  rw [List.take_length] at fZ;obtain⟨RF,hRF⟩:∃ RF:ExD,RF={ m.base with rf:=⟨m.base.rf.n,rfF m.rs ds m.base.rf.to⟩ }:=⟨_,rfl⟩;rw [<- hRF] at fZ;have hRFe:RF.ev=m.base.ev:=by rw [hRF]
  have hRFc:RF.co=m.base.co:=by rw [hRF]
  have hRFm:RF.mem=m.base.mem:=by rw [hRF]
  obtain⟨dl,hdle⟩:=nm (ds.drop m.rs.length);have hdll:dl.length=m.wr.length:=by rw [hdle,List.length_drop];omega
  have hslD:SlR natE Y2 (zbq qd ds.length m.rs.length 1) dl:=by
   have:=hslY.sub (cap:=ds.length) (lo:=m.rs.length) (hi:=ds.length) (by omega) (Nat.le_refl _) (Nat.le_refl _);rw [List.take_of_length_le (by rw [List.length_drop];exact Nat.le_refl _),<- hdle] at this;exact this
  refine⟨_,zac (zaa (zab hbZ fxY)) (i:=0) rfl,?_⟩;refine⟨_,zf3 (tMY hbZ).cells (i:=0) rfl,?_⟩;refine⟨m.rs.length,rfl,by omega,?_⟩;obtain⟨qD,hqD⟩:=nm (zbq qd ds.length m.rs.length 1);rw [<- hqD] at hslD ⊢;have hdn:ds.length-m.rs.length=dl.length:=by omega
  rw [hdn];obtain⟨Rs,hRs⟩:=nm (m.wr.map zc1);have hRsl:Rs.length=m.wr.length:=by rw [hRs,List.length_map]
  have hzl:zs.length=m.wr.length:=by have:=congrArg List.length hz;simpa using this
  have hRsb:∀ R∈Rs,∀ k∈R,k≠[]/\k.length<=48/\∀ a∈k,a<m.base.ev.length:=fun R hR k hk=>by
   rw [hRs] at hR;obtain⟨w,hw,rfl⟩:=List.mem_map.1 hR;exact (hB.wr w hw).2.2 k hk
  refine⟨Nat,fun l=>⟨[(1,At0 bx),(2,At0 L),(6,At0 R),(11,At0 M),(104,.slice qD dl.length dl.length),(105,i64 dl.length),(106,i64 (l:Nat))],[]⟩,
   fun l Z=>l<=dl.length/\ExH Z M { RF with co:=(coG m.base.ev 0 (Rs.take l) dl (RF.co,RF.mem)).1,mem:=(coG m.base.ev 0 (Rs.take l) dl (RF.co,RF.mem)).2 } q1 k1/\OwnS evE 208 Y2.heap.size Z q1 k1 m.base.ev/\Bw Y2 Z,fun l=>dl.length-l,0,
   (cvE rfl rfl),⟨Nat.zero_le _,fZ,oE,hbZ⟩,?_⟩
  clear fZ oE hbZ;rintro l Z ⟨hl,fZ,oE,hbZ⟩;obtain⟨P,hP⟩:=nm (coG m.base.ev 0 (Rs.take l) dl (RF.co,RF.mem));rw [<- hP] at fZ;have hZs:=hbZ.size;have hPw:WrdR P.1.to:=by
   rw [hP];refine znu (by rw [hRFc];exact hB.co) fun R hR k hk a ha=>?_;have:=(hRsb R (List.mem_of_mem_take hR) k hk).2.2 a ha;omega
  refine biE (fun hc=>?_) fun hc=>?_
  ·have hc:(l:Int)<(dl.length:Int):=dT hc;have hll:l<dl.length:=by omega
   have hlz:l<zs.length:=by omega
   have hlR:l<Rs.length:=by omega
   obtain⟨z,hzk⟩:∃ z,zs[l]=z:=⟨_,rfl⟩;have hzm:z∈zs:=by rw [<- hzk];exact gM hlz
   have hzR:Rs[l]?=some (z.1.map (·.1)):=by
    rw [hRs,<- hz,List.getElem?_map,gE hlz,hzk];rfl
   have hzRm:z.1.map (·.1)∈Rs:=List.mem_of_getElem? hzR;obtain⟨d,hd⟩:∃ d,dl[l]=d:=⟨_,rfl⟩;have hdd:dl[l]?=some d:=by rw [gE hll,hd]
   have hdz:d<z.1.length:=by
    refine hdlt (m.rs.length+l) _ d ?_ (by rw [hdle,List.getElem?_drop] at hdd;exact hdd);unfold zdv;rw [List.getElem?_append_right (by rw [List.length_map];omega),List.length_map,Nat.add_sub_cancel_left];have:=hzR;rw [hRs,List.getElem?_map] at this;rw [List.getElem?_map]
    cases hw:m.wr[l]? with
    | none=>rw [hw] at this;cases this
    | some w =>
     rw [hw] at this;have h2:zc1 w=z.1.map (·.1):=Option.some.inj this;show some (zc1 w).length=_;rw [h2,List.length_map]
   obtain⟨y,hyk⟩:∃ y,z.1[d]=y:=⟨_,rfl⟩;have hym:y∈z.1:=by rw [<- hyk];exact gM hdz
   obtain⟨hy0,hy48,hyev⟩:=hRsb _ hzRm y.1 (List.mem_map.2 ⟨y,hym,rfl⟩);have hgy:(z.1.map (·.1)).getD d []=y.1:=by
    rw [gDe,List.getElem?_map,gE hdz,hyk];rfl
   obtain⟨hlR2,hzR2⟩:=List.getElem?_eq_some_iff.1 hzR;have htk:coG m.base.ev 0 (Rs.take (l+1)) dl (RF.co,RF.mem)=(zdK y.1 P.1,upd P.2 l (zjo m.base.ev y.1)):=by
    rw [tsg hlR,hzR2,zkz,<- hP,List.length_take,Nat.min_eq_left (by omega),Nat.zero_add];rw [show dl.getD l 0=d by rw [gDe,hdd];rfl,hgy]
   obtain⟨bD,oD,hpD,hlD,hatD⟩:=(hslD.below hbZ).at hll;obtain⟨bR,oR,hpR,hlR0,hatR⟩:=(rkY.below hbZ).row.at hlz;obtain⟨bz,oz,hpz,hlz0,hatz⟩:=((n1Y z hzm).below hbZ).row.at hdz;have hyrow:=((n2Y z hzm y hym).below hbZ).row;have hylt:=fun a ha=>(zau (n2Y z hzm y hym) (a:=a) ha).2.1;subst hpD;subst hpR;refine⟨l,rfl,hll,?_⟩;refine⟨i64 d,by have:=zac (hatD l hll) (i:=0) (v:=i64 d) (by rw [hd];rfl);exact this,?_⟩;refine⟨_,zac (zaa (zab hbZ fRY)) (i:=0) rfl,?_⟩;refine⟨l,rfl,hlz,?_⟩;refine⟨.slice z.2.1 z.1.length z.2.2,by have:=zac (hatR l hlz) (i:=0) (v := .slice z.2.1 z.1.length z.2.2) (by rw [hzk];rfl);exact this,?_⟩;rw [hpz];refine⟨d,rfl,hdz,?_⟩;refine⟨slV y,by have:=zac (hatz d hdz) (i:=0) (v:=slV y) (by rw [hyk];rfl);exact this,?_⟩;obtain⟨A,T,hA,hE⟩:=zm8 { RF with co:=P.1,mem:=P.2 } q1 k1;have hRel:RelAt Z M 99 47 A T P.1:=⟨hA,by rw [<- hE];exact fZ⟩;refine cmo (zpm hRel hPw hyrow (fun a ha=>by have:=hylt a ha;omega) (by omega) (fun a ha=>by have:=hyev a ha;omega)) ?_;rintro e V2 ⟨rfl,hRel2,gV2⟩;have fV2:ExH V2 M { RF with co:=zdK y.1 P.1,mem:=P.2 } q1 k1:=by
    have e5:=hE (zdK y.1 P.1);show V2.heap[M]?=some (.cells (exC { RF with co:=zdK y.1 P.1,mem:=P.2 } q1 k1).toArray _ _);exact hRel2.cells.trans (by rw [<- e5])
   have hbV2:Bw Y2 V2:=hbZ.trans (zak gV2 hZs (by omega));have oE2:=zaV oE fZ (by decide) gV2;have hyr2:=((n2Y z hzm y hym).below hbV2).row;obtain⟨j,hj2⟩:∃ j,j+1=y.1.length:=⟨y.1.length-1,by have:=List.length_pos_iff.2 hy0;omega⟩;have hjl:j<y.1.length:=by omega
   obtain⟨b6,o6,hp6,hl6,hat6⟩:=hyr2.at hjl;obtain⟨t,ht⟩:∃ t,y.1[j]=t:=⟨_,rfl⟩;have htev:t<m.base.ev.length:=hyev t (by rw [<- ht];exact gM hjl);have hlast:y.1.getLastD 0=t:=by
    rw [List.getLastD_eq_getLast?,List.getLast?_eq_getElem?,show y.1.length-1=j by omega,gE hjl,ht];rfl
   obtain⟨b7,o7,hp7,hl7,hat7⟩:=oE2.row.at htev;have hlV:zjo m.base.ev y.1=(m.base.ev[t]).v:=by
    show (m.base.ev.getD (y.1.getLastD 0) ev0).v=_;rw [hlast,gDe,gE htev];rfl
   have dV:Bw V2 V2.drew:=(Below.refl _ _).drew;have hl6':l<6:=by omega
   unfold slV;rw [hp6];refine DrawE.ord [15] [0,1,2,3,4,5,6,7,8,9,10,11,12,13,14,15] (by kernel_rfl) ?_;refine⟨.slice q1 m.base.ev.length k1,by have:=zac (zaa (hdr fV2)) (i:=0) (v := .slice q1 RF.ev.length k1) rfl;rw [hRFe] at this;exact this,?_⟩;refine⟨(j:Nat),(zai (by omega)).trans (by omega),?_⟩;refine⟨j,rfl,hjl,?_⟩;refine⟨i64 t,by have:=zac (zar dV (hat6 j hjl)) (i:=0) (v:=i64 t) (by rw [ht];rfl);exact this,?_⟩;rw [hp7];refine⟨t,rfl,htev,?_⟩;refine⟨u8 (m.base.ev[t]).v,by have:=zac (zar dV (hat7 t htev)) (i:=3) (v:=u8 (m.base.ev[t]).v) rfl;exact this,?_⟩;refine⟨l,rfl,hl6',?_⟩;refine zaq k5 (hdr fV2) (o:=327+l*1) (v:=u8 (m.base.ev[t]).v) rfl rfl (by rw [zaB];omega) rfl fun S fS gS sS=>?_;rw [Nat.mul_one,zqK _ _ _ hl6'] at fS;have gS2:V2.grownBy S (some M):=zaf (zag dV) gS;refine nxI (by omega) ?_;refine⟨l+1,(cvE rfl rfl),⟨hll,?_,by rw [<- hp7];exact zaV oE2 fV2 (by decide) gS2,hbV2.trans (zak gS2 hbV2.size (by omega))⟩,zdc (by omega)⟩;rw [htk,hlV,<- hp7];exact fS
  have hc:¬ (l:Int)<(dl.length:Int):=dF hc;obtain rfl:l=dl.length:=by omega
  rw [List.take_of_length_le (by omega)] at hP;have hcand:zdw m ds={ RF with co:=P.1,mem:=P.2 }:=by
   rw [hP,hRF,hdle,hRs];rfl
  rw [<- hcand] at fZ;have oE:OwnS evE 208 Y2.heap.size Z q1 k1 (zdw m ds).ev:=oE;refine⟨_,zac (zaa (zab hbZ fLY)) (i:=0) rfl,?_⟩;refine⟨exC (zdw m ds) q1 k1,zaB _ _ _,zaa fZ,hlt fZ,?_⟩;have hjZ:=hJ.step _ _ _ _ hj (StepG.below hbZ);have hGv:∀ k,GvX [.agg (exC (zdw m ds) q1 k1).toArray] k->Y2.heap.size<=k/\∃ a,q1=some a/\k=a.block:=by
   rintro k ⟨x,a,cc,he,rfl⟩;have h1:(exC (zdw m ds) q1 k1).toArray=(exC x (some a) cc).toArray:=by
    have:=List.head_eq_of_cons_eq he;exact Value.agg.inj this
   have h2:exC (zdw m ds) q1 k1=exC x (some a) cc:=by simpa using h1
   have h3:Value.slice q1 (zdw m ds).ev.length k1=Value.slice (some a) x.ev.length cc:=List.head_eq_of_cons_eq h2;have h4:q1=some a:=by injection h3
   exact⟨(zau oE h4).1,a,h4,rfl⟩
  have hmp:(pre++[ds]).map (zdw m)=pre.map (zdw m)++[zdw m ds]:=by rw [List.map_append];rfl
  have hpm:(pre.map (zdw m)++[zdw m ds]) <+: zgZ m:=by
   obtain⟨t,ht⟩:=hpre;refine⟨t.map (zdw m),?_⟩;unfold zgZ;rw [<- ht,List.map_append,hmp]
  refine YieldR.mono (hy _ (zdw m ds) [.agg (exC (zdw m ds) q1 k1).toArray] F Z hjZ ⟨_,q1,k1,by simp,rfl,oE.lower (by omega)⟩ (fun k hk=>by have:=(hGv k hk).1;omega) hpm) ?_;rintro v U ⟨rfl,F',hjU,kU⟩;refine brF ?_;have kF:KeepsG F F' Y2 U:=⟨kU.os.trans hbZ.os,kU.tape.trans hbZ.tape,kU.output.trans hbZ.output,Nat.le_trans hbZ.size kU.size,fun k hk hf=>(kU.same k (by omega) (fun h=>h.elim hf fun h=>by have:=(hGv k h).1;omega)).trans (hbZ.block k hk),fun k hk=>by
   rcases kU.fp k hk with (h | h) | h
   ·exact .inl h
   ·exact .inr (hGv k h).1
   ·exact .inr (by omega)⟩
  refine⟨F',⟨by rw [hmp];exact hjU,?_⟩,kF⟩;rw [hKp];refine⟨Nat.le_trans hY2s kF.size,fun k h1 h2=>?_⟩;obtain⟨h3,h4⟩:=hkq k h1 h2;refine⟨(kF.same k (by omega) h4).trans h3,fun h=>?_⟩;rcases kF.fp k h with h | h
  ·exact h4 h
  ·omega
 ·rintro D F Y hD hfD ⟨hj,hk⟩ hdef;refine⟨_,rfl,hdef,⟨_,rfl⟩,F,?_⟩;show J ((zeo (zdv m)).map (zdw m)) F _;exact hJ.step _ _ _ _ hj (.put (by omega) hfD _)
 ·rintro D ex pre F Y hD hfD hpre h;exact h.elim
end
end Go.Proofs.YtkpkdmipjinoaaaGreatDoor
namespace Go.Sei
def isR (x:ExD) (i:Nat):Bool:=decide ((evA x i).k=1)
def isW (x:ExD) (i:Nat):Bool:=decide ((evA x i).k=2)
def accA (x:ExD) (i:Nat):Bool:=isR x i||isW x i
def hasM (r:RelD) (a b:Nat):Bool:=(r.to a).testBit b
def rowP (n:Nat) (p:Nat->Bool):Nat:=(List.range n).foldl (fun s b=>if p b=true then s|||2^b else s) 0
def zd4 (n:Nat) (p:Nat->Nat->Bool):RelD:=zb7 n fun a=>rowP n (p a)
def frM (x:ExD):RelD:=(zh3 (zbJ x.rf) x.co).1
def zi5 (x:ExD) (a b:Nat):Bool:=accA x a&&(accA x b&&decide ((evA x a).l=(evA x b).l))
def extM (x:ExD) (r:RelD):RelD:=zd4 r.n.toNat fun a b=>hasM r a b && !decide ((evA x a).th=(evA x b).th)
def intM (x:ExD) (r:RelD):RelD:=zd4 r.n.toNat fun a b=>hasM r a b&&decide ((evA x a).th=(evA x b).th)
def locM (x:ExD):RelD:=zd4 x.ev.length (zi5 x)
theorem znI {p:Nat->Bool} {n k:Nat} (hk:k<n) (h:p k=false):(List.range n).all p=false:=by
 rw [List.all_eq_false];exact⟨k,List.mem_range.2 hk,by rw [h];decide⟩
theorem zo4 {p:Nat->Bool} {k:Nat} (h:(List.range k).all p=true) (hp:p k=true):(List.range (k+1)).all p=true:=by
 rw [List.range_succ,List.all_append,h];simp [hp]
theorem zms {a j:Nat}:(2^a).testBit j=decide (j=a):=by
 rw [Nat.testBit_two_pow];exact decide_eq_decide.2 ⟨fun e=>e.symm,fun e=>e.symm⟩
theorem zmp {a:Nat}:∀ (l:List Nat) (f:Nat->Nat) (b j:Nat),((l.foldl (fun f b=>upd f b (f b|||2^a)) f) b).testBit j=((f b).testBit j||(decide (b∈l)&&decide (j=a)))
 | [],f,b,j=>by simp
 | x::l,f,b,j=>by
  rw [List.foldl_cons,zmp l];by_cases hx:b=x
  ·subst hx;rw [zbo,Nat.testBit_or,zms];by_cases hl:b∈l <;> by_cases hj:j=a <;> simp [hl,hj]
  ·rw [zcN _ _ hx];simp [hx]
theorem zgq (tf:Nat->Nat):∀ (n b j:Nat),(zc5 tf n b).testBit j=(decide (j<n)&&decide (b∈els (tf j)))
 | 0,b,j=>by
  show (0:Nat).testBit j=_;simp
 | n+1,b,j=>by
  have ih:=zgq tf n b j;unfold zc5 at ih ⊢;rw [List.range_succ,List.foldl_append,List.foldl_cons,List.foldl_nil,zmp,ih];by_cases hj:j=n
  ·subst hj;simp
  ·by_cases h2:j<n
   ·rw [decide_eq_true h2,decide_eq_true (by omega:j<n+1),decide_eq_false hj];simp
   ·rw [decide_eq_false h2,decide_eq_false (by omega:¬ j<n+1),decide_eq_false hj];simp
theorem zo2 {r:RelD} (h:okR r=true) {b j:Nat}:((zbJ r).to b).testBit j=(decide ((j:Int)<r.n)&&decide (b∈els (r.to j))):=by
 have hn:0<=r.n:=by
  unfold okR at h;rw [bAT,dE] at h;exact h.1
 have e:zbJ r=⟨r.n,zc5 r.to r.n.toNat⟩:=if_pos h;rw [e];show (zc5 r.to r.n.toNat b).testBit j=_;rw [zgq];congr 1;exact decide_eq_decide.2 (by omega)
theorem znn {s:Nat} (h0:s≠0) (h:s<2^64):ctz s∈els s:=by
 rw [(zbE h0 h).1];exact List.mem_cons_self
end Go.Sei
namespace Go.Proofs.YtkpkdmipjinoaaaGreatDoor
open Go.Vc Go.RowKit Go.Sei
section
variable {b c:Nat} {x:ExD} {q:Option Addr} {w:World}
theorem zgi {k:Nat}:x.ev.getD k ev0=evA x k:=rfl
theorem zmh (fx:ExH w b x q c) (hv:ExV w x q) (hn:x.rf.n=x.ev.length) (hok:okR x.rf=true) (hT:Tz64M w):CB 70 #[At0 b] w (.bool (zdD x)):=by
 refine cofM 72 [At0 b] (.s .p (.c .p .p)) Tryz.func70 ?_;obtain⟨from_,hfr⟩:∃ f,f=zbJ x.rf:=⟨_,rfl⟩;have hn20:=hv.n;refine⟨Nat,fun F=>⟨[(0,At0 b),(3,At0 F)],[]⟩,fun F X=>RelH X F from_/\WrdR from_.to/\w.heap.size<=F/\Bw w X,?_,?_⟩
 ·refine⟨relC x.rf,zae _,?_,hlt fx,?_⟩
  ·have h:=zaF (n:=50) (m:=49) (zaa fx);obtain⟨A,T,hA,hE⟩:=zps x q c;have e:=hE x.rf;have e2:(exC x q c).drop 50=relC x.rf++T:=by
    show (exC { x with rf:=x.rf } q c).drop 50=_;rw [e,<- hA,List.drop_left]
   have e3:((exC x q c).toArray.toList.drop 50).take 49=relC x.rf:=by
    show ((exC x q c).drop 50).take 49=_;rw [e2,List.take_append_of_le_length (by rw [zae];decide),List.take_of_length_le (by rw [zae];decide)]
   rw [e3] at h;exact h
  refine cmo (zi0 hv.rf hT) ?_;rintro e Y ⟨rfl,hbY,hwr⟩;refine zal (X:=Y) (v := .agg (relC (zbJ x.rf)).toArray) k40 (zae _) (by kernel_rfl) (zaD _) fun Z hbZ fZ sZ=>?_;rw [<- hfr] at fZ hwr;exact⟨Y.heap.size,(cvE rfl rfl),fZ,hwr,hbY.size,(zst hbY hbZ)⟩
 rintro F X ⟨fF,hwr,hF,hbX⟩;have bits:∀ i j,(from_.to i).testBit j=true->j<x.ev.length:=fun i j h=>by
  rw [hfr,zo2 hok,bAT,dE,hn] at h;omega
 refine⟨_,zac (zaa (zab hbX fx)) (i:=0) rfl,?_⟩;refine⟨Nat,fun k=>⟨[(0,At0 b),(3,At0 F),(18,.slice q x.ev.length c),(19,i64 x.ev.length),(20,i64 (k:Nat))],[]⟩,fun k X=>k<=x.ev.length/\(List.range k).all (fun i=>zfM x (from_.to i) (evA x i))=true/\RelH X F from_/\Bw w X,fun k=>x.ev.length-k,0,(cvE rfl rfl),⟨Nat.zero_le _,rfl,fF,hbX⟩,?_⟩;have hall:zdD x=(List.range x.ev.length).all fun i=>zfM x (from_.to i) (evA x i):=by rw [hfr];rfl
 clear fF hbX;rintro k X ⟨hk,hgo,fF,hbX⟩;dsimp only;have hXs:=hbX.size;refine biE (fun hc=>?_) fun hc=>?_
 ·have hc:(k:Int)<(x.ev.length:Int):=dT hc;have hkl:k<x.ev.length:=by omega
  obtain⟨bq,oq,hqe,hb,hat⟩:=zeb (hv.ev.below hbX) hkl;rw [zgi] at hat;obtain⟨e,he⟩:=nm (evA x k);obtain⟨s,hs⟩:=nm (from_.to k);rw [<- he] at hat;have hs64:s<2^64:=by rw [hs];exact hwr k (by omega)
  have eq0:some (Value.slice q x.ev.length c)=some (Value.slice (some ⟨bq,oq,none⟩) x.ev.length c):=by rw [hqe]
  subst hqe;refine⟨k,rfl,hkl,?_⟩;refine⟨evE.enc e,rfl,hat,hb,?_⟩;refine zal (X:=X) (v := .agg (evE.enc e).toArray) k208 rfl rfl (List.all_eq_true.2 fun u hu=>evE.one e u hu) fun Y hbY fY sY=>?_;have fY:Y.heap[X.heap.size]?=some (.cells (evE.enc e).toArray 208 (0,0)):=fY;have hbY2:=hbX.trans (hbY.mono hXs);have no:∀ {Z:World},Bw w Z->zfM x s e=false->(Ending.returned (.bool false)=Ending.returned (.bool (zdD x))/\Bw w Z):=fun {Z} hb h=>⟨rb (by
   rw [hall];symm;exact znI hkl (by rw [<- hs,<- he];exact h)),hb⟩
  have yes:∀ {Z:World},RelH Z F from_->Bw w Z->zfM x s e=true->(k+1<=x.ev.length/\(List.range (k+1)).all (fun i=>zfM x (from_.to i) (evA x i))=true/\RelH Z F from_/\Bw w Z):=fun {Z} f hb h=>⟨hkl,zo4 hgo (by rw [<- hs,<- he];exact h),f,hb⟩;refine⟨k,rfl,by omega,?_⟩;refine⟨s64 s,by rw [hs];exact zdF (zab hbY fF) (by omega),?_⟩;refine⟨u8 e.k,zac (zaa fY) (i:=1) rfl,?_⟩;refine biE (fun h=>?_) fun h=>?_
  ·have h:¬ e.k=1:=by
    have h:(!decide ((e.k.toNat:Int)=((1:UInt8).toNat:Int)))=true:=h;intro e2;rw [e2] at h;simp at h
   have hone:zfM x s e=decide (s=0):=if_neg h;refine biE (fun h2=>?_) fun h2=>?_
   ·have h2:¬ s=0:=by
     have h2:(!decide ((s:Int)=0))=true:=h2;intro e2;rw [e2] at h2
     cases h2
    exact no hbY2 (by rw [hone];exact decide_eq_false h2)
   ·have h2:s=0:=by
     have h2:(!decide ((s:Int)=0))=false:=h2;have h2:(s:Int)=0:=(by simpa using h2);omega
    refine nxI (by omega) ?_;exact⟨k+1,(cvE rfl rfl),yes (zab hbY fF) hbY2 (by rw [hone];exact decide_eq_true h2),zdc (by omega)⟩
  have h:e.k=1:=by
   have h:(!decide ((e.k.toNat:Int)=((1:UInt8).toNat:Int)))=false:=h;exact zbM.1 (by simpa using h)
  refine cmo (zcJ hs64 (hT.below hbY2)) ?_;rintro e2 Z ⟨rfl,hbZ⟩;have hYs:=hbY2.size;have hbZ2:=hbY2.trans (hbZ.mono hYs);have fZ:=zab hbZ fY;have fFZ:=zab hbZ (zab hbY fF);by_cases hs0:s=0
  ·have e1:(els s).isEmpty=true:=by rw [hs0];rfl
   rw [e1];refine brT ?_;refine brT ?_;refine no hbZ2 ?_;unfold zfM;rw [if_pos h,if_pos hs0]
  obtain⟨hd,hem⟩:=zdp hs0 hs64;rw [hd,hem];have hmem:=znn hs0 hs64;have hbit:s.testBit (ctz s)=true:=(zhz.1 hmem).2;have hwl:ctz s<x.ev.length:=bits k _ (by rw [<- hs];exact hbit);refine brF ?_;refine⟨by omega,((2^ctz s:Nat):Int),zbX (e:=ctz s) (by omega),?_⟩;refine biE (fun h2=>?_) fun h2=>?_
  ·have h2:¬ s=2^ctz s:=by
    have h2:(!decide ((s:Int)=((2^ctz s:Nat):Int)))=true:=h2;intro e2;rw [<- e2] at h2;simp at h2
   refine no hbZ2 ?_;unfold zfM;rw [if_pos h,if_neg hs0,if_neg h2]
  have h2:s=2^ctz s:=by
   have h2:(!decide ((s:Int)=((2^ctz s:Nat):Int)))=false:=h2;have h2:(s:Int)=((2^ctz s:Nat):Int):=by simpa using h2
   exact Int.ofNat.inj h2
  obtain⟨t,ht⟩:=nm (ctz s);rw [<- ht] at hwl h2 ⊢;obtain⟨bq2,oq2,hqe2,hb2,hat2⟩:=zeb (hv.ev.below hbZ2) hwl;rw [zgi] at hat2;obtain⟨f,hf⟩:=nm (evA x t);rw [<- hf] at hat2;have hone:zfM x s e=(decide (f.k=2)&&(decide (f.l=e.l)&&decide (f.v=e.v))):=by
   unfold zfM;rw [if_pos h,if_neg hs0,<- ht,if_pos h2,<- hf]
  refine⟨_,zac (zaa (zab hbZ2 fx)) (i:=0) rfl,?_⟩;refine⟨t,rfl,hwl,?_⟩;refine⟨evE.enc f,rfl,by
   simp only [Option.some.injEq,Addr.mk.injEq,and_true] at hqe2;rw [hqe2.1,hqe2.2];exact hat2,by
   simp only [Option.some.injEq,Addr.mk.injEq,and_true] at hqe2;rw [hqe2.1];exact hb2,?_⟩
  refine zal (X:=Z) (v := .agg (evE.enc f).toArray) k208 rfl rfl (List.all_eq_true.2 fun u hu=>evE.one f u hu) fun V hbV fV sV=>?_;have fV:V.heap[Z.heap.size]?=some (.cells (evE.enc f).toArray 208 (0,0)):=fV;have hbV2:=zst hbZ2 hbV;have fe:=zab hbV fZ;have fFV:=zab hbV fFZ;have n8:∀ {a d:UInt8},(!decide ((a.toNat:Int)=(d.toNat:Int)))=true->¬ a=d:=fun {a d} h e2=>by
   rw [e2] at h;simp at h
  have y8:∀ {a d:UInt8},(!decide ((a.toNat:Int)=(d.toNat:Int)))=false->a=d:=fun {a d} h=>zbM.1 (by simpa using h);refine⟨u8 f.k,zac (zaa fV) (i:=1) rfl,?_⟩;refine biE (fun h3=>?_) fun h3=>?_
  ·have h3:¬ f.k=2:=n8 (d:=2) h3;refine brT ?_;refine brT ?_;exact no hbV2 (by rw [hone,decide_eq_false h3];rfl)
  have h3:f.k=2:=y8 (d:=2) h3;refine⟨u8 f.l,zac (zaa fV) (i:=2) rfl,?_⟩;refine⟨u8 e.l,zac (zaa fe) (i:=2) rfl,?_⟩;refine biE (fun h4=>?_) fun h4=>?_
  ·have h4:¬ f.l=e.l:=n8 h4;refine brT ?_;exact no hbV2 (by rw [hone,decide_eq_false h4,Bool.false_and,Bool.and_false])
  have h4:f.l=e.l:=y8 h4;refine⟨u8 f.v,zac (zaa fV) (i:=3) rfl,?_⟩;refine⟨u8 e.v,zac (zaa fe) (i:=3) rfl,?_⟩;refine biE (fun h5=>?_) fun h5=>?_
  ·have h5:¬ f.v=e.v:=n8 h5;exact no hbV2 (by rw [hone,decide_eq_false h5,Bool.and_false,Bool.and_false])
  have h5:f.v=e.v:=y8 h5;refine nxI (by omega) ?_;exact⟨k+1,(cvE rfl rfl),yes fFV hbV2 (by rw [hone,decide_eq_true h3,decide_eq_true h4,decide_eq_true h5];rfl),zdc (by omega)⟩
 ·have hc:¬ (k:Int)<(x.ev.length:Int):=dF hc;obtain rfl:k=x.ev.length:=by omega
  exact⟨rb (by rw [hall];exact hgo.symm),hbX⟩
end
theorem zsH {bx n:Nat} {w:World} {i:Nat} (f:w.heap[bx]?=some (.cells #[i64 (n:Nat)] 3 (0,0))) (hn:n<=1000):Calls Tryz.prog 205 #[i64 (i:Nat),At0 bx] w fun e w'=>e = .returned (.bool true)/\w'.heap[bx]?=some (.cells #[i64 (n+1:Nat)] 3 (0,0))/\w.grownBy w' (some bx):=by
 refine cofE 6 [i64 (i:Nat),At0 bx] Tryz.func205 ?_;refine⟨_,zac (zaa f) (i:=0) rfl,?_⟩;refine nxI (by omega) ?_;exact zaq k3 f (o:=0) (v:=i64 (n+1:Nat)) rfl rfl (by show 0<1;decide) rfl fun w' f' g' s'=>⟨rfl,f',g'⟩
theorem zjz {bs bx s:Nat} {w:World} (fs:w.heap[bs]?=some (.cells #[s64 s] 37 (0,0))) (fx:w.heap[bx]?=some (.cells #[i64 (0:Nat)] 3 (0,0))) (hs:s<2^64) (hT:Tz64M w) (hbx:5≠bx) :
  Calls Tryz.prog 207 #[.func (.func 205) #[] #[At0 bx],At0 bs] w fun e w'=>(∃ v,e = .returned v)/\w'.heap[bx]?=some (.cells #[i64 (lenS s:Nat)] 3 (0,0))/\w.grownBy w' (some bx):=by
 refine cofE 16 [.func (.func 205) #[] #[At0 bx],At0 bs] Tryz.func207 ?_;refine⟨_,zac (zaa fs) (i:=0) rfl,?_⟩;refine⟨Nat×Nat,fun q=>⟨[(0,.func (.func 205) #[] #[At0 bx]),(3,s64 q.2)],[]⟩,fun q X=>X.heap[bx]?=some (.cells #[i64 (q.1:Nat)] 3 (0,0))/\q.1+lenS q.2=lenS s/\q.2<2^64/\w.grownBy X (some bx),fun q=>q.2,(0,s),(cvE rfl rfl),⟨fx,Nat.zero_add _,hs,zbD _ _⟩,?_⟩;rintro⟨n,r⟩ X ⟨f,hn,hr,gX⟩;dsimp only at f hn hr ⊢;have hls:=zgj s;refine biE (fun hc=>?_) fun hc=>?_
 ·have hc:(!decide ((r:Int)=0))=true:=hc;have hc:¬ (r:Int)=0:=by simpa using hc
  have hr0:r≠0:=by omega
  obtain⟨e1,e2,_,_⟩:=zbE hr0 hr;have hl:lenS r=lenS (rest r)+1:=by unfold lenS;rw [e1];rfl
  have hTX:Tz64M X:=zbZ hT (gX.block _ (zcB hT) (by simpa using hbx));refine cmo (zpe hTX hr0 hr) ?_;rintro e _ ⟨rfl,rfl⟩;have hn64:n<=1000:=by unfold lenS at hn;omega
  refine cmo (zsH f hn64) ?_;rintro e V ⟨rfl,fV,gV⟩;refine brF ?_;refine⟨((r-1:Nat):Int),(zfo (a:=(r:Int)-1) (by omega)).trans (by omega),?_⟩;refine⟨((rest r:Nat):Int),zbY (a:=r) (b:=r-1) hr (by omega),?_⟩;exact⟨(n+1,rest r),(cvE rfl rfl),⟨fV,by show n+1+lenS (rest r)=_;omega,by show rest r<_;omega,zaf gX gV⟩,e2⟩
 ·have hc:(!decide ((r:Int)=0))=false:=hc;have hc:(r:Int)=0:=by simpa using hc
  obtain rfl:r=0:=by omega
  have h0:lenS 0=0:=rfl;rw [h0,Nat.add_zero] at hn;exact⟨⟨_,rfl⟩,by rw [<- hn];exact f,gX⟩
theorem zsG {s:Nat} {w:World} (hs:s<2^64) (hT:Tz64M w):CB 147 #[s64 s] w (i64 (lenS s:Nat)):=by
 refine cofM 11 [s64 s] (.s .p (.c .p .p)) Tryz.func147 ?_;obtain⟨L,hL⟩:=nm (w.heap.size);refine⟨Unit,fun _=>⟨[(0,s64 s),(3,At0 L)],[]⟩,fun _ Y=>Y.heap[L]?=some (.cells #[i64 (0:Nat)] 3 (0,0))/\Y.heap.size=L+1/\Bw w Y,?_,?_⟩
 ·refine zal (X:=w) (v:=i64 0) k3 rfl rfl rfl fun Y hbY fY sY=>?_;have fY:Y.heap[w.heap.size]?=some (.cells #[i64 (0:Nat)] 3 (0,0)):=fY;exact⟨(),⟨.cons rfl (.cons (by rw [hL];rfl) .nil),rfl⟩,by rw [hL];exact fY,by rw [hL];exact sY,hbY⟩
 rintro _ Y ⟨fY,sY,hbY⟩;refine cmo zgX ?_;rintro e _ ⟨rfl,rfl⟩;have hb2:Bw Y (Y.alloc (.cells #[s64 s] 37)):=zba _ _;have htl:=zcB hT;refine cmo (zjz (hnew Y _) (zab hb2 fY) hs ((hT.below hbY).below hb2) (by omega)) ?_;rintro e Z ⟨⟨v,rfl⟩,fZ,gZ⟩;refine⟨_,zac (zaa fZ) (i:=0) rfl,rfl,?_⟩;exact ((zst hbY hb2)).trans (zak gZ (by have:=hbY.size;have:=hb2.size;omega) (by omega))
def cmpI (x y:Nat):Int:=if x<y then -1 else if y<x then 1 else 0
theorem zpj {x:Nat} {w:World}:Calls Tryz.prog 204 #[i64 (x:Nat)] w fun e w'=>e = .returned (.bool false)/\w=w':=by
 refine cofE 6 [i64 (x:Nat)] Tryz.func204 ?_;exact⟨rb (by simp),rfl⟩
theorem zlz {x y:Nat} {w:World}:Calls Tryz.prog 146 #[i64 (x:Nat),i64 (y:Nat)] w fun e w'=>e = .returned (i64 (cmpI x y))/\w=w':=by
 refine cofE 20 [i64 (x:Nat),i64 (y:Nat)] Tryz.func146 ?_;refine cmo zpj ?_;rintro e _ ⟨rfl,rfl⟩;refine cmo zpj ?_;rintro e _ ⟨rfl,rfl⟩;refine brF ?_;refine brF ?_;refine biE (fun h=>?_) fun h=>?_
 ·have h:(x:Int)<y:=dT h;exact⟨ri (by unfold cmpI;rw [if_pos (by omega)]),rfl⟩
 have h:¬ (x:Int)<y:=dF h;refine biE (fun h2=>?_) fun h2=>?_
 ·have h2:(y:Int)<x:=dT h2;exact⟨ri (by unfold cmpI;rw [if_neg (by omega),if_pos (by omega)]),rfl⟩
 ·have h2:¬ (y:Int)<x:=dF h2;exact⟨ri (by unfold cmpI;rw [if_neg (by omega),if_neg (by omega)]),rfl⟩
section
variable {b c L:Nat} {x:ExD} {q:Option Addr} {w:World}
theorem zpv {X:World} (fx:ExH X b x q c) {i:Nat} (hi:i<48):X.cell? ⟨b,0+99+1+i*1,none⟩=some (s64 (x.co.to i)):=by
 obtain⟨A,T,hA,hE⟩:=zm8 x q c;have hR:RelAt X b 99 47 A T x.co:=⟨hA,by rw [<- hE];exact fx⟩;exact hR.cell hi
theorem zsn {u v:Nat} (fx:ExH w b x q c) (fL:w.heap[L]?=some (.cells #[At0 b] 140 (0,0))) (hco:WrdR x.co.to) (hu:u<48) (hv:v<48) (hT:Tz64M w) :
  CB 145 #[i64 (u:Nat),i64 (v:Nat),At0 L] w (i64 (cmpI (lenS (x.co.to v)) (lenS (x.co.to u)))):=by
 refine cofE 23 [i64 (u:Nat),i64 (v:Nat),At0 L] Tryz.func145 ?_;refine DrawE.ord [] [0,1,2,3,4,5,6,8,9,10,11,12,13,14,7,15,16,17] (by kernel_rfl) ?_;have hd:Bw w w.drew:=(Below.refl _ _).drew;refine⟨_,zac (zaa (hdr fL)) (i:=0) rfl,?_⟩;refine⟨v,rfl,hv,?_⟩;refine⟨_,zpv (hdr fx) hv,?_⟩;refine⟨_,zac (zaa (hdr fL)) (i:=0) rfl,?_⟩;refine⟨u,rfl,hu,?_⟩;refine⟨_,zpv (hdr fx) hu,?_⟩;refine cmo (zsG (hco v hv) (hT.below hd)) ?_;rintro e X ⟨rfl,hbX⟩;refine⟨hbX,?_⟩;refine cmo (zsG (hco u hu) ((hT.below hd).below hbX)) ?_;rintro e Y ⟨rfl,hbY⟩;refine⟨hbY,?_⟩;refine cmo zlz ?_;rintro e _ ⟨rfl,rfl⟩;exact⟨Below.refl _ _,rfl,(hd.trans hbX).trans (hbY.mono hbX.size)⟩
end
theorem zgQ {key:Nat->Nat} {x:Nat}:∀ (B A:List Nat),(∀ y∈B,key y<key x)->zcp key (B++A) x=B++zcp key A x
 | [],A,_=>rfl
 | y::B,A,h=>by
  show (if key y<key x then y::zcp key (B++A) x else x::y::(B++A))=_;rw [if_pos (h y List.mem_cons_self),zgQ B A fun z hz=>h z (List.mem_cons_of_mem _ hz)];rfl
theorem zgP {key:Nat->Nat} {x:Nat}:∀ r:List Nat,(zcp key r x).length=r.length+1
 | []=>rfl
 | y::r=>by
  unfold zcp
  split
  ·show (zcp key r x).length+1=_;rw [zgP r];rfl
  ·rfl
theorem zgO {key:Nat->Nat} {x a:Nat}:∀ r:List Nat,a∈zcp key r x↔a=x\/a∈r
 | []=>by simp [zcp]
 | y::r=>by
  unfold zcp
  split
  ·rw [List.mem_cons,zgO r,List.mem_cons];constructor
   ·rintro (h | h | h) <;> simp [h]
   ·rintro (h | h | h) <;> simp [h]
  ·simp
def zhd (key:Nat->Nat) (l:List Nat):List Nat:=l.foldl (fun acc x=>zcp key acc x) []
theorem zkT (key:Nat->Nat) (l:List Nat) (x:Nat):zhd key (l++[x])=zcp key (zhd key l) x:=by
 unfold zhd;rw [List.foldl_append];rfl
theorem zdq {key:Nat->Nat} {a:Nat}:∀ (l acc:List Nat),a∈l.foldl (fun acc x=>zcp key acc x) acc↔a∈l\/a∈acc
 | [],acc=>by simp
 | x::l,acc=>by
  rw [List.foldl_cons,zdq l,zgO,List.mem_cons];constructor
  ·rintro (h | h | h) <;> simp [h]
  ·rintro ((h | h) | h) <;> simp [h]
theorem zdr {key:Nat->Nat}:∀ (l acc:List Nat),(l.foldl (fun acc x=>zcp key acc x) acc).length=l.length+acc.length
 | [],acc=>by simp
 | x::l,acc=>by
  rw [List.foldl_cons,zdr l,zgP,List.length_cons];omega
theorem zlW {key:Nat->Nat} {l:List Nat} {a:Nat}:a∈zgw key l↔a∈l:=by
 unfold zgw;rw [List.mem_reverse,zdq];simp
theorem zlX {key:Nat->Nat} (l:List Nat):(zgw key l).length=l.length:=by
 unfold zgw;rw [List.length_reverse,zdr];rfl
section
variable {b c L g cap:Nat} {x:ExD} {q:Option Addr} {w:World} {l:List Nat}
abbrev keyC (x:ExD):Nat->Nat:=fun i=>lenS (x.co.to i)
theorem zgN {B:Nat} (ho:OwnS natE 3 B w (some ⟨g,0,none⟩) cap l) (fx:ExH w b x q c) (fL:w.heap[L]?=some (.cells #[At0 b] 140 (0,0))) (hT:Tz64M w) (htg:5≠g) (hco:WrdR x.co.to) (h48:∀ a∈l,a<48) (hn:l.length<=20) (hn1:1<=l.length) :
  Calls Tryz.prog 245 #[.slice (some ⟨g,0,none⟩) l.length cap,i64 0,i64 l.length,.func (.func 145) #[] #[At0 L]] w fun e w'=>e = .returned (.tuple #[])/\OwnS natE 3 B w' (some ⟨g,0,none⟩) cap (zgw (keyC x) l)/\w.grownBy w' (some g):=by
 refine cofM 53 [.slice (some ⟨g,0,none⟩) l.length cap,i64 0,i64 l.length,.func (.func 145) #[] #[At0 L]] (.c .p .p) Tryz.func245 ?_;obtain⟨E0,hE0⟩:∃ E0:List (Nat×Value),E0=[(0,.slice (some ⟨g,0,none⟩) l.length cap),(1,i64 0),(2,i64 l.length),(3,.func (.func 145) #[] #[At0 L])]:=⟨_,rfl⟩;have hbg:b≠g:=fun e=>by
  obtain⟨_,_,cur,hc⟩:=zau ho rfl;have hc:w.heap[g]?=_:=hc;rw [<- e,fx] at hc;simp at hc
 have hLg:L≠g:=fun e=>by
  obtain⟨_,_,cur,hc⟩:=zau ho rfl;have hc:w.heap[g]?=_:=hc;rw [<- e,fL] at hc;simp at hc
 refine⟨Unit,fun _=>⟨[(0,.slice (some ⟨g,0,none⟩) l.length cap),(1,i64 0),(2,i64 l.length),(3,.func (.func 145) #[] #[At0 L]),(8,i64 1)],[]⟩,fun _ X=>w=X,?_,?_⟩
 ·refine⟨1,zai (by omega),?_⟩;exact⟨(),(cvE rfl rfl),rfl⟩
 rintro _ _ rfl;have hl0:l.take 1=(zhd (keyC x) (l.take 1)).reverse:=by
  cases l with
  | nil=>simp at hn1
  | cons a l=>rfl
 refine⟨Nat,fun i=>⟨[(0,.slice (some ⟨g,0,none⟩) l.length cap),(1,i64 0),(2,i64 l.length),(3,.func (.func 145) #[] #[At0 L]),(8,i64 (i:Nat))],[]⟩,fun i X=>(1<=i/\i<=l.length)/\OwnS natE 3 B X (some ⟨g,0,none⟩) cap ((zhd (keyC x) (l.take i)).reverse++l.drop i)/\w.grownBy X (some g),fun i=>l.length-i,1,
  (cvE rfl rfl),⟨⟨Nat.le_refl _,hn1⟩,by rw [<- hl0,List.take_append_drop];exact ho,zbD _ _⟩,?_⟩
 rintro i X ⟨⟨hi1,hi⟩,oX,gX⟩;dsimp only;refine biE (fun hc=>?_) fun hc=>?_
 ·have hc:(i:Int)<(l.length:Int):=dT hc;have hil:i<l.length:=by omega
  obtain⟨u,hu⟩:∃ u,l[i]=u:=⟨_,rfl⟩;have hum:u∈l:=by rw [<- hu];exact gM hil
  obtain⟨S,hS⟩:=nm (zhd (keyC x) (l.take i));have hSm:∀ a∈S,a<48:=fun a ha=>by
   rw [hS] at ha;have:=(zdq (key:=keyC x) (l.take i) []).1 ha;rcases this with h | h
   ·exact h48 a (List.mem_of_mem_take h)
   ·cases h
  have hSl:S.length=i:=by
   rw [hS];unfold zhd;rw [zdr,List.length_take];simp;omega
  have htk:zhd (keyC x) (l.take (i+1))=zcp (keyC x) S u:=by
   rw [tsg hil,hu,zkT,<- hS]
  rw [<- hS,<- List.getElem_cons_drop hil,hu] at oX;refine⟨List Nat×List Nat,fun s=>⟨[(0,.slice (some ⟨g,0,none⟩) l.length cap),(1,i64 0),(2,i64 l.length),(3,.func (.func 145) #[] #[At0 L]),(8,i64 (i:Nat)),(9,i64 s.1.length)],[]⟩,fun s Y=>S.reverse=s.1++s.2/\(∀ y∈s.2,keyC x y<keyC x u)/\OwnS natE 3 B Y (some ⟨g,0,none⟩) cap (s.1++u::(s.2++l.drop (i+1)))/\w.grownBy Y (some g),fun s=>s.1.length,(S.reverse,[]),
   ⟨.cons rfl (.cons rfl (.cons rfl (.cons rfl (.cons rfl (.cons (by show _=some (i64 (S.reverse.length:Nat));rw [List.length_reverse,hSl];rfl) .nil))))),rfl⟩,⟨by rw [List.append_nil],fun y hy=>(by cases hy),oX,gX⟩,?_⟩
  clear oX gX;rintro⟨A,Bs⟩ Y ⟨hsp,hkB,oY,gY⟩;dsimp only at hsp hkB oY ⊢;have hAl:A.length<=i:=by
   have:=congrArg List.length hsp;rw [List.length_reverse,hSl,lap] at this;omega
  have hdY:Bw Y Y.drew:=(Below.refl _ _).drew;have fin:∀ {Z:World},Bw Y Z->zcp (keyC x) A.reverse u=u::A.reverse->((1<=i+1/\i+1<=l.length)/\OwnS natE 3 B Z (some ⟨g,0,none⟩) cap ((zhd (keyC x) (l.take (i+1))).reverse++l.drop (i+1))/\w.grownBy Z (some g)):=fun {Z} hb hins=>by
   refine⟨⟨by omega,hil⟩,?_,zbj gY (hb.mono gY.size)⟩;have h1:S=Bs.reverse++A.reverse:=by rw [<- List.reverse_append,<- hsp,List.reverse_reverse]
   rw [htk,h1,zgQ _ _ (fun y hy=>hkB y (by simpa using hy)),hins];have h2:(Bs.reverse++u::A.reverse).reverse++l.drop (i+1)=A++u::(Bs++l.drop (i+1)):=by simp
   rw [h2];exact oY.below hb
  refine DrawE.ord [] [0,1,2,3,4,5,6,7,8,9,10,11,12,13,14,15,16] (by kernel_rfl) ?_;refine biE (fun h=>?_) fun h=>?_
  ·have h:(0:Int)<(A.length:Int):=dT h;obtain⟨A',y,hA⟩:∃ A' y,A=A'++[y]:=by
    refine⟨A.dropLast,A.getLast (fun e=>by rw [e] at h;simp at h),(List.dropLast_concat_getLast _).symm⟩
   subst hA;have hA'l:(A'++[y]).length=A'.length+1:=by simp
   rw [hA'l] at hAl h ⊢;have hrl:((A'++[y])++u::(Bs++l.drop (i+1))).length=l.length:=by
    have:=congrArg List.length hsp;rw [List.length_reverse,hSl] at this;simp only [lap,List.length_cons,List.length_nil,List.length_drop] at this ⊢;omega
   have hyS:y<48:=hSm y (by
    have:y∈S.reverse:=(by rw [hsp];simp);simpa using this)
   obtain⟨b',o',hq',hb',hat'⟩:=oY.row.at (i:=A'.length) (by rw [hrl];omega);have hbo:b'=g/\o'=0:=by simpa using hq'.symm
   obtain⟨rfl,rfl⟩:=hbo;have c1:Y.cell? ⟨b',0+(A'.length+1)*1,none⟩=some (i64 u):=by
    have:=zac (hat' (A'.length+1) (by rw [hrl];omega)) (i:=0) (v:=i64 u) (by
     have e:((A'++[y])++u::(Bs++l.drop (i+1)))[A'.length+1]?=some u:=by
      rw [List.getElem?_append_right (by simp),hA'l,Nat.sub_self];rfl
     rw [gE (by rw [hrl];omega)] at e;rw [Option.some.inj e];rfl)
    exact this
   have c2:Y.cell? ⟨b',0+A'.length*1,none⟩=some (i64 y):=by
    have:=zac (hat' A'.length (by rw [hrl];omega)) (i:=0) (v:=i64 y) (by
     have e:((A'++[y])++u::(Bs++l.drop (i+1)))[A'.length]?=some y:=by
      rw [List.append_assoc,List.getElem?_append_right (Nat.le_refl _),Nat.sub_self];rfl
     rw [gE (by rw [hrl];omega)] at e;rw [Option.some.inj e];rfl)
    exact this
   refine⟨A'.length+1,rfl,by omega,?_⟩;refine⟨_,c1,?_⟩;refine⟨(A'.length:Nat),(zai (by omega)).trans (by omega),?_⟩;refine⟨A'.length,rfl,by omega,?_⟩;refine⟨_,c2,?_⟩;have fxY:ExH Y b x q c:=(gY.block b (hlt fx) (by simpa using hbg)).trans fx;have fLY:Y.heap[L]?=some (.cells #[At0 b] 140 (0,0)):=(gY.block L (hlt fL) (by simpa using hLg)).trans fL;have hTY:Tz64M Y:=zbZ hT (gY.block _ (zcB hT) (by simpa using htg));refine cmo (zsn (hdr fxY) (hdr fLY) hco (h48 u hum) hyS (hTY.below hdY)) ?_;rintro e Z ⟨rfl,hbZ⟩;refine⟨hbZ,?_⟩;have hYZ:=hdY.trans hbZ;refine biE (fun hm=>?_) fun hm=>?_
   ·have hm:cmpI (lenS (x.co.to y)) (lenS (x.co.to u))<0:=dT hm;have hk:keyC x y<keyC x u:=by
     unfold cmpI at hm;by_cases h1:lenS (x.co.to y)<lenS (x.co.to u)
     ·exact h1
     ·rw [if_neg h1] at hm
      split at hm <;> omega
    have oZ:=oY.below hYZ;have gZ:=zbj gY (hYZ.mono gY.size);obtain⟨b2,o2,hq2,hb2,hat2⟩:=oZ.row.at (i:=A'.length) (by rw [hrl];omega);have hbo2:b2=b'/\o2=0:=(by simpa using hq2.symm);obtain⟨rfl,rfl⟩:=hbo2;have dZ:Bw Z Z.drew:=(Below.refl _ _).drew;have d1:=zd0 hYZ c1;have d2:=zd0 hYZ c2;refine DrawE.ord [15,17] [0,1,2,3,4,5,6,7,8,9,10,11,12,13,14,15,16,17] (by kernel_rfl) ?_;refine⟨(A'.length:Nat),(zai (by omega)).trans (by omega),?_⟩;refine⟨(A'.length:Nat),(zai (by omega)).trans (by omega),?_⟩;refine⟨A'.length,rfl,by omega,?_⟩;refine⟨_,d2,?_⟩;refine⟨A'.length+1,rfl,by omega,?_⟩;refine⟨_,d1,?_⟩;refine⟨A'.length+1,rfl,by omega,?_⟩;refine zjd (i:=A'.length+1) (v:=y) k3 rfl (oZ.below dZ) (by rw [hrl];omega) fun V oV gV=>?_;refine⟨A'.length,rfl,by omega,?_⟩;refine zjd (i:=A'.length) (v:=u) k3 rfl oV (by rw [List.length_set,hrl];omega) fun U oU gU=>?_;have e1:(((A'++[y])++u::(Bs++l.drop (i+1))).set (A'.length+1) y).set A'.length u=A'++u::((y::Bs)++l.drop (i+1)):=by
     rw [List.append_assoc,List.set_append_right _ _ (by omega),Nat.add_sub_cancel_left,List.set_append_right _ _ (by omega),Nat.sub_self];rfl
    rw [e1] at oU;refine⟨(A'.length:Nat),(zai (by omega)).trans (by omega),?_⟩;refine⟨(A',y::Bs),(cvE rfl rfl),⟨by rw [hsp];simp,fun z hz=>?_,oU,zaf (zaf (zbj gZ (dZ.mono gZ.size)) gV) gU⟩,by show A'.length<_;omega⟩;rcases List.mem_cons.1 hz with hz | hz
    ·rw [hz];exact hk
    ·exact hkB z hz
   ·have hm:¬ cmpI (lenS (x.co.to y)) (lenS (x.co.to u))<0:=dF hm;have hk:¬ keyC x y<keyC x u:=fun h=>hm (by unfold cmpI;rw [if_pos h];decide);refine nxI (by omega) ?_;refine⟨i+1,(cvE rfl rfl),fin hYZ ?_,zdc (by omega)⟩;rw [List.reverse_append];exact if_neg hk
  ·have h:¬ (0:Int)<(A.length:Int):=dF h;have hA0:A=[]:=List.length_eq_zero_iff.1 (by omega);subst hA0;refine brF ?_;refine nxI (by omega) ?_;exact⟨i+1,(cvE rfl rfl),fin hdY rfl,zdc (by omega)⟩
 ·have hc:¬ (i:Int)<(l.length:Int):=dF hc;obtain rfl:i=l.length:=by omega
  rw [List.take_length,List.drop_length,List.append_nil] at oX;exact⟨rfl,oX,gX⟩
end
theorem zsW:∃ G,TyEq Tryz.prog 43 true 6 2 G/\∀ f:Nat->UInt8,G (seg 6 fun i=>u8 (f i)):=by
 refine⟨_,.array (m:=6) (by decide) Tryz.underlying43 (fun w=>Tryz.isAgg43 w) (zbC (by kernel_rfl) (by kernel_rfl)).1 (by kernel_rfl) tU8,fun f i hi=>?_⟩;refine⟨((f i).toNat:Int),?_⟩;unfold zbw;have h:=zfc (n:=6) (fun i=>u8 (f i)) hi;rw [Nat.mul_one];have hl:i<(seg 6 fun i=>u8 (f i)).length:=by rw [zaz];exact hi
 rw [<- List.getElem_cons_drop hl,List.take_succ_cons,List.take_zero];rw [gE hl] at h;rw [Option.some.inj h];rfl
theorem zoz {f g:Nat->UInt8}:seg 6 (fun i=>u8 (f i))=seg 6 (fun i=>u8 (g i))↔((List.range 6).all fun l=>decide (f l=g l))=true:=by
 rw [List.all_eq_true];constructor
 ·intro h i hi;have hi:=List.mem_range.1 hi;have h3:=zfc (n:=6) (fun i=>u8 (f i)) hi;rw [h,zfc (n:=6) (fun i=>u8 (g i)) hi] at h3;have h4:=Option.some.inj h3;unfold u8 at h4;injection h4 with _ h5;exact decide_eq_true (zbM.1 h5).symm
 ·intro h;unfold seg;refine List.map_congr_left fun i hi=>?_;rw [dT (h i hi)]
theorem zoR (x y:Operand) (f g:Nat->UInt8) (w:World):(do eqGuard .eql 43 x y (.agg (seg 6 fun i=>u8 (f i)).toArray) (.agg (seg 6 fun i=>u8 (g i)).toArray);binOp .eql 43 (.agg (seg 6 fun i=>u8 (f i)).toArray) (.agg (seg 6 fun i=>u8 (g i)).toArray)).run Tryz.prog w = .ok (.bool ((List.range 6).all fun l=>decide (f l=g l))) w:=by
 obtain⟨G,h1,h2⟩:=zsW;have:=znd h1 9998 rfl (by kernel_rfl) (zaz 6 _) (zaz 6 _) (h2 f) (h2 g) x y w;rw [this,zfC zoz,Bool.decide_eq_true]
section
variable {b c L g cap:Nat} {x:ExD} {q:Option Addr} {w:World} {l:List Nat}
theorem zi3 {B:Nat} (ho:OwnS natE 3 B w (some ⟨g,0,none⟩) cap l) (fx:ExH w b x q c) (fL:w.heap[L]?=some (.cells #[At0 b] 140 (0,0))) (hT:Tz64M w) (htg:5≠g) (hco:WrdR x.co.to) (h48:∀ a∈l,a<48) (hn:l.length<=19) (hn1:1<=l.length) :
  Calls Tryz.prog 203 #[.slice (some ⟨g,0,none⟩) l.length cap,i64 l.length,.func (.func 145) #[] #[At0 L]] w fun e w'=>e = .returned (.tuple #[])/\OwnS natE 3 B w' (some ⟨g,0,none⟩) cap (zgw (keyC x) l)/\w.grownBy w' (some g):=by
 refine cofE 63 [.slice (some ⟨g,0,none⟩) l.length cap,i64 l.length,.func (.func 145) #[] #[At0 L]] Tryz.func203 ?_;refine⟨Unit,fun _=>⟨[(0,.slice (some ⟨g,0,none⟩) l.length cap),(1,i64 l.length),(2,.func (.func 145) #[] #[At0 L]),(6,i64 20),(7,i64 0),(8,i64 20)],[]⟩,fun _ X=>w=X,fun _=>0,(),(cvE rfl rfl),rfl,?_⟩;rintro _ _ rfl;refine brN (decide_eq_false (by omega)) ?_;refine cmo (zgN ho fx fL hT htg hco h48 (by omega) hn1) ?_;rintro e X ⟨rfl,oX,gX⟩;refine⟨Unit,fun _=>⟨[(1,i64 l.length),(6,i64 20)],[]⟩,fun _ Y=>X=Y,fun _=>0,(),(cvE rfl rfl),rfl,?_⟩;rintro _ _ rfl;refine brN (decide_eq_false (by omega)) ?_;exact⟨rfl,oX,gX⟩
theorem zlj {q:Option Addr} {n m:Nat} (hm:m<=1000):Calls Tryz.prog 245 #[.slice q n cap,i64 (m:Nat),i64 (m:Nat),.func (.func 145) #[] #[At0 L]] w fun e w'=>e = .returned (.tuple #[])/\w=w':=by
 refine cofE 53 [.slice q n cap,i64 (m:Nat),i64 (m:Nat),.func (.func 145) #[] #[At0 L]] Tryz.func245 ?_;refine nxI (by omega) ?_;refine⟨Unit,fun _=>⟨[(2,i64 (m:Nat)),(8,i64 ((m+1:Nat):Int))],[]⟩,fun _ X=>w=X,fun _=>0,(),(cvE rfl rfl),rfl,?_⟩;rintro _ _ rfl;refine brN (decide_eq_false (by omega)) ?_;exact⟨rfl,rfl⟩
theorem zlU {B:Nat} (ho:OwnS natE 3 B w (some ⟨g,0,none⟩) cap l) (fx:ExH w b x q c) (fL:w.heap[L]?=some (.cells #[At0 b] 140 (0,0))) (hT:Tz64M w) (htg:5≠g) (hco:WrdR x.co.to) (h48:∀ a∈l,a<48) (hn:l.length<=20) (hn1:1<=l.length) :
  Calls Tryz.prog 203 #[.slice (some ⟨g,0,none⟩) l.length cap,i64 l.length,.func (.func 145) #[] #[At0 L]] w fun e w'=>e = .returned (.tuple #[])/\OwnS natE 3 B w' (some ⟨g,0,none⟩) cap (zgw (keyC x) l)/\w.grownBy w' (some g):=by
 by_cases h19:l.length<=19
 ·exact zi3 ho fx fL hT htg hco h48 h19 hn1
 have hn20:l.length=20:=by omega
 refine cofE 63 [.slice (some ⟨g,0,none⟩) l.length cap,i64 l.length,.func (.func 145) #[] #[At0 L]] Tryz.func203 ?_;refine⟨Bool,fun k=>⟨[(0,.slice (some ⟨g,0,none⟩) l.length cap),(1,i64 l.length),(2,.func (.func 145) #[] #[At0 L]),(6,i64 20),(7,i64 (if k=true then (0:Nat) else l.length:Nat)),(8,i64 (if k=true then l.length else 40:Nat))],[]⟩,fun k X=>(k=true/\w=X)\/(k=false/\OwnS natE 3 B X (some ⟨g,0,none⟩) cap (zgw (keyC x) l)/\w.grownBy X (some g)),fun k=>if k=true then 1 else 0,true,⟨.cons rfl (.cons rfl (.cons rfl (.cons rfl (.cons rfl (.cons (by rw [hn20];rfl) .nil))))),rfl⟩,.inl ⟨rfl,rfl⟩,?_⟩;rintro k X (⟨rfl,rfl⟩ | ⟨rfl,oX,gX⟩)
 ·refine brE (decide_eq_true (by show ((l.length:Nat):Int)<=(l.length:Int);omega)) ?_;refine cmo (zgN ho fx fL hT htg hco h48 hn hn1) ?_;rintro e X ⟨rfl,oX,gX⟩;refine⟨40,by rw [hn20];rfl,?_⟩;exact⟨false,(cvE rfl rfl),.inr ⟨rfl,oX,gX⟩,by decide⟩
 ·refine brN (decide_eq_false (by show ¬ ((40:Nat):Int)<=(l.length:Int);omega)) ?_;refine cmo (zlj (m:=l.length) (by omega)) ?_;rintro e _ ⟨rfl,rfl⟩;refine⟨Unit,fun _=>⟨[(1,i64 l.length),(6,i64 20)],[]⟩,fun _ Y=>X=Y,fun _=>0,(),(cvE rfl rfl),rfl,?_⟩;rintro _ _ rfl;refine brN (decide_eq_false (by omega)) ?_;exact⟨rfl,oX,gX⟩
theorem zhZ {B:Nat} (ho:OwnS natE 3 B w (some ⟨g,0,none⟩) cap l) (fx:ExH w b x q c) (fL:w.heap[L]?=some (.cells #[At0 b] 140 (0,0))) (hT:Tz64M w) (htg:5≠g) (hco:WrdR x.co.to) (h48:∀ a∈l,a<48) (hn:l.length<=20) (hn1:1<=l.length) :
  Calls Tryz.prog 144 #[.slice (some ⟨g,0,none⟩) l.length cap,.func (.func 145) #[] #[At0 L]] w fun e w'=>e = .returned (.tuple #[])/\OwnS natE 3 B w' (some ⟨g,0,none⟩) cap (zgw (keyC x) l)/\w.grownBy w' (some g):=by
 refine cofE 9 [.slice (some ⟨g,0,none⟩) l.length cap,.func (.func 145) #[] #[At0 L]] Tryz.func144 ?_;refine cmo (zlU ho fx fL hT htg hco h48 hn hn1) ?_;rintro e X ⟨rfl,h1,h2⟩;exact⟨rfl,h1,h2⟩
theorem zm1 {l:List Nat} (h:0<l.length):l.headD 48=l[0]:=by
 cases l with
 | nil=>simp at h
 | cons a r=>rfl
theorem zpa {k a:Nat} (h:a∈zfF x k):a<x.ev.length:=by
 unfold zfF at h;exact List.mem_range.1 (List.mem_filter.1 h).1
theorem zmn {k a:Nat} (h:a∈za6 x k):a<x.ev.length:=zpa (zlW.1 h)
theorem zsa (q:Option Addr) (c:Nat):((exC x q c).drop 99).take 49=relC x.co:=by
 obtain⟨A,T,hA,hE⟩:=zm8 x q c;show ((exC { x with co:=x.co } q c).drop 99).take 49=_;rw [hE,<- hA,List.drop_left,List.take_append_of_le_length (by rw [zae];decide),List.take_of_length_le (by rw [zae];decide)]
theorem zqJ (q:Option Addr) (c:Nat):((exC x q c).drop 327).take 6=seg 6 fun i=>u8 (x.mem i):=by
 obtain⟨A,T,hA,hE⟩:=zpr x q c [];have:=hE x.mem;rw [List.append_nil] at this;show ((exC { x with mem:=x.mem } q c).drop 327).take 6=_;rw [this,<- hA,List.drop_left,List.take_append_of_le_length (by rw [zaz];decide),List.take_of_length_le (by rw [zaz];decide)]
abbrev zri (X:World) (b:Nat) (f:Nat->UInt8):Prop:=X.heap[b]?=some (.cells (seg 6 fun i=>u8 (f i)).toArray 43 (0,0))
theorem znt {locs:Nat} (fx:ExH w b x q c) (hv:ExV w x q) (hlo:locs<=6) (hne:∀ l,l<locs->zfF x l≠[]) (hT:Tz64M w) :
  CB 71 #[At0 b,i64 locs] w (.bool (zdQ x locs)):=by
 refine cofM 87 [At0 b,i64 locs] (.c .p (.c .p (.c .p (.c .p .p)))) Tryz.func71 ?_;obtain⟨L,hL⟩:=nm (w.heap.size);have hbw:=hlt fx;have hn:=hv.n;have htl:=zcB hT;refine⟨Unit,fun _=>⟨[(1,i64 locs),(2,At0 L)],[]⟩,fun _ X=>X.heap[L]?=some (.cells #[At0 b] 140 (0,0))/\X.heap.size=L+1/\Bw w X,⟨(),⟨.cons rfl (.cons (by rw [hL];rfl) .nil),rfl⟩,by rw [hL];exact hnew w _,by rw [hL];exact wz _ _,(zba w _)⟩,?_⟩;rintro _ X ⟨fL,sX,hbX⟩;refine⟨Unit,fun _=>⟨[(1,i64 locs),(2,At0 L),(5,At0 (L+1))],[]⟩,fun _ Y=>RelH Y (L+1) ⟨x.ev.length,fun _=>0⟩/\Y.heap.size=L+2/\Bw X Y,?_,?_⟩
 ·refine⟨_,zac (zaa fL) (i:=0) rfl,?_⟩;refine⟨_,zac (zaa (zab hbX fx)) (i:=0) rfl,?_⟩;refine⟨relC ⟨x.ev.length,fun _=>0⟩,by kernel_rfl,?_⟩;refine zal (X:=X) (v := .agg (relC ⟨x.ev.length,fun _=>0⟩).toArray) k40 (zae _) (by kernel_rfl) (zaD _) fun Z hbZ fZ sZ=>?_;rw [sX] at fZ sZ;exact⟨(),⟨.cons rfl (.cons rfl (.cons (by rw [<- sX];rfl) .nil)),rfl⟩,fZ,sZ,hbZ⟩
 rintro _ Y ⟨fT,sY,hbY⟩;refine⟨Unit,fun _=>⟨[(1,i64 locs),(2,At0 L),(5,At0 (L+1)),(6,At0 (L+2))],[]⟩,fun _ Z=>zri Z (L+2) (fun _=>0)/\RelH Z (L+1) ⟨x.ev.length,fun _=>0⟩/\Z.heap[L]?=some (.cells #[At0 b] 140 (0,0))/\Z.heap.size=L+3/\Bw w Z,?_,?_⟩
 ·exact⟨(),⟨.cons rfl (.cons rfl (.cons rfl (.cons (by rw [<- sY];rfl) .nil))),rfl⟩,by rw [<- sY];exact hnew Y _,hold _ fT,hold _ (zab hbY fL),by rw [wz,sY],((zst hbX hbY)).alloc (by have:=hbX.size;have:=hbY.size;omega) _⟩
 clear fL sX hbX fT sY hbY;clear X Y;rintro _ X ⟨fM,fT,fL,sX,hbX⟩;obtain⟨P0,hP0⟩:∃ P0:RelD×(Nat->UInt8),P0=(⟨x.ev.length,fun _=>0⟩,fun _=>0):=⟨_,rfl⟩;have hco:zdQ x locs=match coGo x locs 0 P0 with
  | none=>false
  | some p=>zeW p.1 x.co&&(List.range 6).all fun l=>decide (p.2 l=x.mem l):=by rw [hP0];rfl
 refine⟨RelD×(Nat->UInt8),fun P=>⟨[(2,At0 L),(5,At0 (L+1)),(6,At0 (L+2))],[]⟩,fun P Z=>coGo x locs 0 P0=some P/\zri Z (L+2) P.2/\RelH Z (L+1) P.1/\Z.heap[L]?=some (.cells #[At0 b] 140 (0,0))/\Bw w Z,?_,?_⟩
 ·refine⟨Nat×(RelD×(Nat->UInt8)),fun s=>⟨[(2,At0 L),(5,At0 (L+1)),(6,At0 (L+2)),(17,i64 locs),(18,i64 (s.1:Nat))],[]⟩,fun s Z=>s.1<=locs/\coGo x (locs-s.1) s.1 s.2=coGo x locs 0 P0/\WrdR s.2.1.to/\zri Z (L+2) s.2.2/\RelH Z (L+1) s.2.1/\Z.heap[L]?=some (.cells #[At0 b] 140 (0,0))/\Bw w Z/\L+3<=Z.heap.size,fun s=>locs-s.1,(0,P0),
   (cvE rfl rfl),⟨Nat.zero_le _,rfl,by rw [hP0];exact fun i _=>(by show 0<_;decide),by rw [hP0];exact fM,by rw [hP0];exact fT,fL,hbX,by omega⟩,?_⟩
  clear fM fT fL sX hbX;rintro⟨l,P⟩ Z ⟨hl,hgo,hPw,fM,fT,fL,hbZ,sZ⟩;dsimp only at hl hgo hPw fM fT sZ ⊢;refine biE (fun hc=>?_) fun hc=>?_
  ·have hc:(l:Int)<(locs:Int):=dT hc;have hll:l<locs:=by omega
   have hstep:coGo x (locs-l) l P=if (za6 x l).headD 48=l then coGo x (locs-(l+1)) (l+1) (zdK (za6 x l) P.1,upd P.2 l (zjo x.ev (za6 x l))) else none:=by
    rw [show locs-l=(locs-(l+1))+1 by omega];rfl
   refine⟨_,zac (zaa fL) (i:=0) rfl,?_⟩;refine⟨_,zac (zaa (zab hbZ fx)) (i:=0) rfl,?_⟩;obtain⟨pr,hpr⟩:∃ pr:Nat->Bool,pr=fun i=>decide ((evA x i).k=2)&&decide ((evA x i).l.toNat=l):=⟨_,rfl⟩;refine⟨Nat×Option Addr×Nat,fun s=>⟨[(2,At0 L),(5,At0 (L+1)),(6,At0 (L+2)),(7,i64 (l:Nat)),(8,.slice s.2.1 ((List.range s.1).filter pr).length s.2.2),(17,i64 locs),(18,i64 (l:Nat)),(24,.slice q x.ev.length c),(25,i64 x.ev.length),(26,i64 (s.1:Nat))],[]⟩,fun s V=>s.1<=x.ev.length/\OwnS natE 3 Z.heap.size V s.2.1 s.2.2 ((List.range s.1).filter pr)/\Bw Z V,fun s=>x.ev.length-s.1,(0,none,0),
    (cvE rfl rfl),⟨Nat.zero_le _,OwnS.nil,Below.refl _ _⟩,?_⟩
   rintro⟨k,ps,cs⟩ V ⟨hk,oV,hbV⟩;dsimp only at hk oV ⊢;have hVs:=hbV.size;refine biE (fun hc=>?_) fun hc=>?_
   ·have hc:(k:Int)<(x.ev.length:Int):=dT hc;have hkl:k<x.ev.length:=(by omega);have hbwV:=zst hbZ hbV;obtain⟨bq,oq,hqe,hb,hat⟩:=zeb (hv.ev.below hbwV) hkl;rw [zgi] at hat;have hfl:(List.range (k+1)).filter pr=(List.range k).filter pr++if pr k=true then [k] else []:=by
     rw [List.range_succ,List.filter_append,List.filter_cons,List.filter_nil]
    have hprk:pr k=(decide ((evA x k).k=2)&&decide ((evA x k).l.toNat=l)):=(by rw [hpr]);have hll2:((List.range k).filter pr).length<=k:=by
     have:=List.length_filter_le pr (List.range k);rw [List.length_range] at this;exact this
    obtain⟨e,he⟩:=nm (evA x k);rw [<- he] at hat hprk;have eq0:some (Value.slice q x.ev.length c)=some (Value.slice (some ⟨bq,oq,none⟩) x.ev.length c):=(by rw [hqe]);subst hqe;refine⟨k,rfl,hkl,?_⟩;refine⟨evE.enc e,rfl,hat,hb,?_⟩;refine zal (X:=V) (v := .agg (evE.enc e).toArray) k208 rfl rfl (List.all_eq_true.2 fun u hu=>evE.one e u hu) fun U hbU fU sU=>?_;have fU:U.heap[V.heap.size]?=some (.cells (evE.enc e).toArray 208 (0,0)):=fU;have oU:=oV.below hbU;have hbU2:=hbV.trans (hbU.mono hVs);have hUs:=hbU2.size;have skip:pr k=false->(k+1<=x.ev.length/\OwnS natE 3 Z.heap.size U ps cs ((List.range (k+1)).filter pr)/\Bw Z U):=fun h=>⟨hkl,by rw [hfl,h];simpa using oU,hbU2⟩;have zcZ:pr k=false->((List.range (k+1)).filter pr).length=((List.range k).filter pr).length:=fun h=>by rw [hfl,h];simp
    refine⟨u8 e.k,zac (zaa fU) (i:=1) rfl,?_⟩;refine biE (fun h1=>?_) fun h1=>?_
    ·have h1:e.k=2:=zbM.1 (dT h1);refine⟨u8 e.l,zac (zaa fU) (i:=2) rfl,?_⟩;refine⟨(e.l.toNat:Int),zaZ _,?_⟩;refine biE (fun h2=>?_) fun h2=>?_
     ·have h2:(e.l.toNat:Int)=(l:Int):=dT h2;have hp1:pr k=true:=(by rw [hprk,decide_eq_true h1,decide_eq_true (by omega:e.l.toNat=l)];rfl);rw [if_pos hp1] at hfl;refine⟨⟨by decide,by decide,rfl⟩,natE.enc k,rfl,?_⟩;have hb2:Bw U (U.alloc (.cells (natE.enc k).toArray 3)):=zba _ _;have sb2:=hb2.size;unfold opsE zc6;show SatR _ _;refine appI (oU.below hb2) (zbi natE k) (by omega) (by omega) fun p' c' S oS gS hat2=>?_;rw [zcE] at gS;rw [<- hfl] at oS ⊢;refine nxI (by omega) ?_;exact⟨(k+1,p',c'),(cvE rfl rfl),⟨hkl,oS,hbU2.trans ((hb2.mono hUs).trans (zbh (oU.below hb2) (by omega) (Nat.le_refl _) gS))⟩,zdc (by omega)⟩
     ·have h2:¬ (e.l.toNat:Int)=(l:Int):=dF h2;have hp0:pr k=false:=(by rw [hprk,decide_eq_false (by omega:¬ e.l.toNat=l),Bool.and_false]);refine nxI (by omega) ?_;exact⟨(k+1,ps,cs),⟨.cons rfl (.cons rfl (.cons rfl (.cons rfl (.cons (by show _=some (Value.slice ps ((List.range (k+1)).filter pr).length cs);rw [zcZ hp0];rfl) (.cons rfl (.cons rfl (.cons rfl (.cons rfl (.cons rfl .nil))))))))),rfl⟩,skip hp0,zdc (by omega)⟩
    ·have h1:¬ e.k=2:=fun e2=>(dF h1) (by rw [e2];rfl);have hp0:pr k=false:=(by rw [hprk,decide_eq_false h1];rfl);refine brF ?_;refine nxI (by omega) ?_;exact⟨(k+1,ps,cs),⟨.cons rfl (.cons rfl (.cons rfl (.cons rfl (.cons (by show _=some (Value.slice ps ((List.range (k+1)).filter pr).length cs);rw [zcZ hp0];rfl) (.cons rfl (.cons rfl (.cons rfl (.cons rfl (.cons rfl .nil))))))))),rfl⟩,skip hp0,zdc (by omega)⟩
   have hc:¬ (k:Int)<(x.ev.length:Int):=dF hc;obtain rfl:k=x.ev.length:=by omega
   have hwr:(List.range x.ev.length).filter pr=zfF x l:=by rw [hpr];rfl
   rw [hwr] at oV ⊢;have hwn:=hne l hll;have hw1:1<=(zfF x l).length:=List.length_pos_iff.2 hwn;have hw19:(zfF x l).length<=20:=by
    have:=List.length_filter_le pr (List.range x.ev.length);rw [hwr,List.length_range] at this;omega
   have hps:∃ g,ps=some ⟨g,0,none⟩:=by
    rcases oV.inv with ⟨_,_,h⟩ | ⟨g,cur,h,_⟩
    ·exact (hwn h).elim
    ·exact⟨g,h⟩
   obtain⟨g,rfl⟩:=hps;have hg:=(zau oV rfl).1;have hg:Z.heap.size<=g:=hg;have hbwV:=zst hbZ hbV;have hZw:=hbZ.size;refine cmo (zhZ oV (zab hbwV fx) (zab hbV fL) (hT.below hbwV) (by omega) hv.co (fun a ha=>by have:=zpa ha;omega) hw19 hw1) ?_;rintro e U ⟨rfl,oU,gU⟩;have oU:OwnS natE 3 Z.heap.size U (some ⟨g,0,none⟩) cs (za6 x l):=oU;have hrl:(za6 x l).length=(zfF x l).length:=zlX _;have hbU:Bw Z U:=hbV.trans (zak gU hVs hg);have hbwU:=hbZ.trans (hbU.mono hZw);have hU0:0<(za6 x l).length:=by omega
   obtain⟨bq,oq,hqe,hbq,hatq⟩:=oU.row.at hU0;have hbo:bq=g/\oq=0:=by simpa using hqe.symm
   obtain⟨rfl,rfl⟩:=hbo;rw [<- hrl];have hh:(za6 x l).headD 48=(za6 x l)[0]:=zm1 hU0;refine⟨0,rfl,hU0,?_⟩;refine⟨i64 (za6 x l)[0],by have:=zac (hatq 0 hU0) (i:=0) (v:=i64 (za6 x l)[0]) rfl;exact this,?_⟩;refine biE (fun h=>?_) fun h=>?_
   ·have h:(!decide (((za6 x l)[0]:Int)=(l:Int)))=true:=h;have h:¬ ((za6 x l)[0]:Int)=(l:Int):=(by simpa using h);rw [hstep,if_neg (by rw [hh];omega)] at hgo;refine⟨rb ?_,hbwU⟩;rw [hco,<- hgo]
   have h:(!decide (((za6 x l)[0]:Int)=(l:Int)))=false:=h;have h:((za6 x l)[0]:Int)=(l:Int):=by simpa using h
   rw [hstep,if_pos (by rw [hh];omega)] at hgo;have fTU:=zab hbU fT;have hRT:RelAt U (L+1) 0 40 [] [] P.1:=⟨rfl,by simpa using fTU⟩;have hrk48:∀ a∈za6 x l,a<48:=fun a ha=>by have:=zmn ha;omega
   have hLZ:=hlt fT;have hL2Z:=hlt fM;refine cmo (zpm hRT hPw oU.row (fun a ha=>by cases ha;exact⟨hbq,by show bq≠L+1;omega⟩) (by omega) hrk48) ?_;rintro e S ⟨rfl,hRS,gS⟩;have fTS:RelH S (L+1) (zdK (za6 x l) P.1):=by simpa using hRS.cells
   have hbS:Bw w S:=hbwU.trans (zak gS hbwU.size (by omega));have fMS:=(gS.block (L+2) (hlt (zab hbU fM)) (by simp)).trans (zab hbU fM);have fLS:=(gS.block L (hlt (zab hbU fL)) (by simp)).trans (zab hbU fL);have oS:=zaV oU fTU (by decide) gS;obtain⟨j,hj⟩:∃ j,j+1=(za6 x l).length:=⟨(za6 x l).length-1,by omega⟩;have hjl:j<(za6 x l).length:=by omega
   obtain⟨b6,o6,hp6,hl6,hat6⟩:=oS.row.at hjl;have hbo6:b6=bq/\o6=0:=by simpa using hp6.symm
   obtain⟨rfl,rfl⟩:=hbo6;obtain⟨t,ht⟩:∃ t,(za6 x l)[j]=t:=⟨_,rfl⟩;have htev:t<x.ev.length:=zmn (by rw [<- ht];exact gM hjl);have hlast:(za6 x l).getLastD 0=t:=by
    rw [List.getLastD_eq_getLast?,List.getLast?_eq_getElem?,show (za6 x l).length-1=j by omega,gE hjl,ht];rfl
   obtain⟨b7,o7,hp7,hl7,hat7⟩:=zeb (hv.ev.below hbS) htev;rw [zgi] at hat7;have hlV:zjo x.ev (za6 x l)=(evA x t).v:=by
    show (x.ev.getD ((za6 x l).getLastD 0) ev0).v=_;rw [hlast];rfl
   have dS:Bw S S.drew:=(Below.refl _ _).drew;refine DrawE.ord [15] [0,1,2,3,4,5,6,7,8,9,10,11,12,13,14,15] (by kernel_rfl) ?_;refine⟨_,zac (zaa (hdr fLS)) (i:=0) rfl,?_⟩;refine⟨_,zac (zaa (hdr (zab hbS fx))) (i:=0) rfl,?_⟩;refine⟨(j:Nat),(zai (by omega)).trans (by omega),?_⟩;refine⟨j,rfl,hjl,?_⟩;refine⟨i64 t,by have:=zac (zar dS (hat6 j hjl)) (i:=0) (v:=i64 t) (by rw [ht];rfl);exact this,?_⟩;rw [hp7];refine⟨t,rfl,htev,?_⟩;refine⟨u8 (evA x t).v,by have:=zac (zar dS hat7) (i:=3) (v:=u8 (evA x t).v) rfl;exact this,?_⟩;refine⟨l,rfl,by omega,?_⟩;refine zaq k5 (hdr fMS) (o:=0+l*1) (v:=u8 (evA x t).v) rfl rfl (by rw [zaz];omega) rfl fun T fT2 gT sT=>?_;have gT2:S.grownBy T (some (L+2)):=zaf (zag dS) gT;have e8:=zl6 (n:=6) (fun i=>u8 (P.2 i)) (fun i=>u8 (upd P.2 l (evA x t).v i)) (i:=l) (by omega) rfl (fun j hj=>by rw [zcN _ _ hj]);rw [zbo] at e8;rw [Nat.mul_one,Nat.zero_add,e8] at fT2;refine nxI (by omega) ?_;refine⟨(l+1,(zdK (za6 x l) P.1,upd P.2 l (evA x t).v)),(cvE rfl rfl),⟨hll,by rw [<- hlV];exact hgo,ziJ hPw hrk48,fT2,(gT2.block (L+1) (hlt fTS) (by simp)).trans fTS,(gT2.block L (hlt fLS) (by simp)).trans fLS,hbS.trans (zak gT2 hbS.size (by omega)),by have:=gT2.size;have:=gS.size;have:=hbU.size;omega⟩,zdc (by omega)⟩
  ·have hc:¬ (l:Int)<(locs:Int):=dF hc;obtain rfl:l=locs:=by omega
   rw [Nat.sub_self] at hgo;exact⟨P,(cvE rfl rfl),hgo.symm,fM,fT,fL,hbZ⟩
 rintro P Z ⟨hgo,fM,fT,fL,hbZ⟩;have hco2:zdQ x locs=(zeW P.1 x.co&&(List.range 6).all fun l=>decide (P.2 l=x.mem l)):=by rw [hco,hgo]
 refine DrawE.ord [] [0,1,2,3,4,5,6,7,8,9,10,11,12,13,14,15] (by kernel_rfl) ?_;have dZ:Bw Z Z.drew:=(Below.refl _ _).drew;refine⟨relC P.1,zae _,zaa (hdr fT),hlt (hdr fT),?_⟩;refine⟨_,zac (zaa (hdr fL)) (i:=0) rfl,?_⟩;have fxZ:=hdr (zab hbZ fx);refine⟨relC x.co,zae _,by have h:=zaF (n:=99) (m:=49) (zaa fxZ);rw [show (exC x q c).toArray.toList=exC x q c from rfl,zsa] at h;exact h,hlt fxZ,?_⟩;refine⟨_,fun w=>zne _ _ P.1 x.co w,?_⟩;have fin:Bw w Z.drew:=zst hbZ dZ;refine biE (fun h=>?_) fun h=>?_
 ·have h:zeW P.1 x.co=true:=h;refine⟨seg 6 (fun i=>u8 (P.2 i)),zaz _ _,zaa (hdr fM),hlt (hdr fM),?_⟩;refine⟨_,zac (zaa (hdr fL)) (i:=0) rfl,?_⟩;refine⟨seg 6 (fun i=>u8 (x.mem i)),zaz _ _,by have h:=zaF (n:=327) (m:=6) (zaa fxZ);rw [show (exC x q c).toArray.toList=exC x q c from rfl,zqJ] at h;exact h,hlt fxZ,?_⟩;refine⟨_,fun w=>zoR _ _ P.2 x.mem w,?_⟩;exact⟨rb (by rw [hco2,h,Bool.true_and]),fin⟩
 ·have h:zeW P.1 x.co=false:=h;exact⟨rb (by rw [hco2,h,Bool.false_and]),fin⟩
end
section
variable {b c:Nat} {x:ExD} {q:Option Addr} {w:World}
theorem zj7 {X:World} {o:Nat} {A T:List Value} {r:RelD} (fx:ExH X b x q c) (hA:A.length=o) (hE:exC x q c=A++(relC r++T)) {i:Nat} (hi:i<48):X.cell? ⟨b,o+1+i*1,none⟩=some (s64 (r.to i)):=by
 have hR:RelAt X b o 47 A T r:=⟨hA,by rw [<- hE];exact fx⟩;exact hR.cell hi
theorem zrH {X:World} (fx:ExH X b x q c) {i:Nat} (hi:i<48):X.cell? ⟨b,0+1+1+i*1,none⟩=some (s64 (x.po.to i)):=by
 obtain⟨A,T,hA,hE⟩:=zqD x q c [];exact zj7 fx hA (by rw [<- hE,List.append_nil]) hi
theorem zse {X:World} (fx:ExH X b x q c) {i:Nat} (hi:i<48):X.cell? ⟨b,0+148+1+i*1,none⟩=some (s64 (x.dt.to i)):=by
 obtain⟨A,T,hA,hE⟩:=zqE x q c [];exact zj7 fx hA (by rw [<- hE,List.append_nil]) hi
theorem zsl {X:World} (fx:ExH X b x q c) {i:Nat} (hi:i<48):X.cell? ⟨b,0+197+1+i*1,none⟩=some (s64 (x.ct.to i)):=by
 obtain⟨A,T,hA,hE⟩:=zqF x q c [];exact zj7 fx hA (by rw [<- hE,List.append_nil]) hi
theorem zrA {X:World} (fx:ExH X b x q c) {i:Nat} (hi:i<48):X.cell? ⟨b,0+246+1+i*1,none⟩=some (s64 (x.rm.to i)):=by
 obtain⟨A,T,hA,hE⟩:=zqB x q c [];exact zj7 fx hA (by rw [<- hE,List.append_nil]) hi
theorem n64 {a b:Nat} (h:(!decide ((a:Int)=(b:Int)))=true):¬ a=b:=fun e=>by
 rw [e] at h;simp at h
theorem y64 {a b:Nat} (h:(!decide ((a:Int)=(b:Int)))=false):a=b:=by
 have h:(a:Int)=(b:Int):=by simpa using h
 exact Int.ofNat.inj h
theorem n8 {a d:UInt8} (h:(!decide ((a.toNat:Int)=(d.toNat:Int)))=true):¬ a=d:=fun e2=>by
 rw [e2] at h;simp at h
theorem y8 {a d:UInt8} (h:(!decide ((a.toNat:Int)=(d.toNat:Int)))=false):a=d:=zbM.1 (by simpa using h)
def wrG (x:ExD) (k:Nat):Nat:=(List.range k).foldl (fun s i=>if (evA x i).k=2 then s|||2^i else s) 0
theorem zjS (x:ExD) (k:Nat):wrG x (k+1)=if (evA x k).k=2 then wrG x k|||2^k else wrG x k:=by
 unfold wrG;rw [List.range_succ,List.foldl_append];rfl
theorem zjT (x:ExD):∀ k,k<=64->wrG x k<2^64
 | 0,_=>by show 0<_;decide
 | k+1,h=>by
  rw [zjS]
  split
  ·exact Nat.or_lt_two_pow (zjT x k (by omega)) (zaN (by omega))
  ·exact zjT x k (by omega)
theorem zln (fx:ExH w b x q c) (hv:ExV w x q) (hrn:x.rm.n=x.ev.length) (hok:okR x.rm=true) (hT:Tz64M w) :
  CB 72 #[At0 b] w (.bool (zcW x)):=by
 refine cofM 130 [At0 b] (.s .p (.s .p (.c .p .p))) Tryz.func72 ?_;have hn:=hv.n;obtain⟨W,hW⟩:=nm (zpb x);have hWG:W=wrG x x.ev.length:=by rw [hW];rfl
 have hW64:W<2^64:=by rw [hWG];exact zjT x _ (by omega)
 refine⟨Unit,fun _=>⟨[(0,At0 b),(3,s64 W),(4,s64 0)],[]⟩,fun _ X=>Bw w X,?_,?_⟩
 ·refine⟨_,zac (zaa fx) (i:=0) rfl,?_⟩;refine⟨Nat,fun k=>⟨[(0,At0 b),(3,s64 (wrG x k)),(4,s64 0),(17,.slice q x.ev.length c),(18,i64 x.ev.length),(19,i64 (k:Nat))],[]⟩,fun k X=>k<=x.ev.length/\Bw w X,fun k=>x.ev.length-k,0,
   (cvE rfl rfl),⟨Nat.zero_le _,Below.refl _ _⟩,?_⟩
  rintro k X ⟨hk,hbX⟩;dsimp only;refine biE (fun hc=>?_) fun hc=>?_
  ·have hc:(k:Int)<(x.ev.length:Int):=dT hc;have hkl:k<x.ev.length:=by omega
   obtain⟨bq,oq,hqe,hb,hat⟩:=zeb (hv.ev.below hbX) hkl;rw [zgi] at hat;obtain⟨e,he⟩:=nm (evA x k);have hs:=zjS x k;rw [<- he] at hat hs;subst hqe;refine⟨k,rfl,hkl,?_⟩;refine⟨evE.enc e,rfl,hat,hb,?_⟩;refine zal (X:=X) (v := .agg (evE.enc e).toArray) k208 rfl rfl (List.all_eq_true.2 fun u hu=>evE.one e u hu) fun Y hbY fY sY=>?_;have fY:Y.heap[X.heap.size]?=some (.cells (evE.enc e).toArray 208 (0,0)):=fY;have hbY2:=zst hbX hbY;refine⟨u8 e.k,zac (zaa fY) (i:=1) rfl,?_⟩;refine biE (fun h=>?_) fun h=>?_
   ·have h:e.k=2:=zbM.1 (dT h);rw [if_pos h] at hs;refine⟨by omega,((2^k:Nat):Int),zbX (e:=k) (by omega),?_⟩;refine⟨((wrG x k|||2^k:Nat):Int),zcA (zjT x k (by omega)) (zaN (by omega)),?_⟩;refine nxI (by omega) ?_;exact⟨k+1,⟨.cons rfl (.cons (by show _=some (s64 (wrG x (k+1)));rw [hs];rfl) (.cons rfl (.cons rfl (.cons rfl (.cons rfl .nil))))),rfl⟩,⟨hkl,hbY2⟩,zdc (by omega)⟩
   ·have h:¬ e.k=2:=fun e2=>(dF h) (by rw [e2];rfl);rw [if_neg h] at hs;refine nxI (by omega) ?_;exact⟨k+1,⟨.cons rfl (.cons (by show _=some (s64 (wrG x (k+1)));rw [hs];rfl) (.cons rfl (.cons rfl (.cons rfl (.cons rfl .nil))))),rfl⟩,⟨hkl,hbY2⟩,zdc (by omega)⟩
  ·have hc:¬ (k:Int)<(x.ev.length:Int):=dF hc;obtain rfl:k=x.ev.length:=by omega
   exact⟨(),⟨.cons rfl (.cons (by show _=some (s64 W);rw [hWG];rfl) (.cons rfl .nil)),rfl⟩,hbX⟩
 rintro _ X hbX;refine⟨_,zac (zaa (zab hbX fx)) (i:=0) rfl,?_⟩;have hdep:zcW x=zjB x W 0 x.ev 0:=by rw [hW];rfl
 refine⟨Nat×Nat,fun s=>⟨[(0,At0 b),(3,s64 W),(4,s64 s.2),(35,.slice q x.ev.length c),(36,i64 x.ev.length),(37,i64 (s.1:Nat))],[]⟩,fun s X=>s.1<=x.ev.length/\zjB x W s.1 (x.ev.drop s.1) s.2=zcW x/\s.2<2^64/\Bw w X,fun s=>x.ev.length-s.1,(0,0),
  (cvE rfl rfl),⟨Nat.zero_le _,hdep.symm,by decide,hbX⟩,?_⟩
 clear hbX;rintro⟨k,h⟩ X ⟨hk,hgo,hh,hbX⟩;dsimp only at hk hgo hh ⊢;refine biE (fun hc=>?_) fun hc=>?_
 ·have hc:(k:Int)<(x.ev.length:Int):=dT hc;have hkl:k<x.ev.length:=by omega
  have hk48:k<48:=by omega
  obtain⟨bq,oq,hqe,hb,hat⟩:=zeb (hv.ev.below hbX) hkl;rw [zgi] at hat;obtain⟨e,he⟩:=nm (evA x k);rw [<- he] at hat;have hdrp:x.ev.drop k=e::x.ev.drop (k+1):=by
   rw [<- List.getElem_cons_drop hkl,he];unfold evA;rw [gDe,gE hkl];rfl
  rw [hdrp] at hgo;unfold zjB at hgo;obtain⟨d,hd⟩:=nm (x.dt.to k);obtain⟨t,ht⟩:=nm (x.ct.to k);obtain⟨r,hr⟩:=nm (x.rm.to k);obtain⟨po,hpo⟩:=nm (x.po.to k);dsimp only at hgo;rw [<- hd,<- ht,<- hr,<- hpo] at hgo;have d64:d<2^64:=by rw [hd];exact hv.dt k hk48
  have t64:t<2^64:=by rw [ht];exact hv.ct k hk48
  have r64:r<2^64:=by rw [hr];exact hv.rm k hk48
  have p64:po<2^64:=by rw [hpo];exact hv.po k hk48
  have dt64:=Nat.or_lt_two_pow d64 t64;have dtr64:=Nat.or_lt_two_pow dt64 r64;have dr64:=Nat.or_lt_two_pow d64 r64;subst hqe;refine⟨k,rfl,hkl,?_⟩;refine⟨evE.enc e,rfl,hat,hb,?_⟩;refine zal (X:=X) (v := .agg (evE.enc e).toArray) k208 rfl rfl (List.all_eq_true.2 fun u hu=>evE.one e u hu) fun Y hbY fY sY=>?_;have fY:Y.heap[X.heap.size]?=some (.cells (evE.enc e).toArray 208 (0,0)):=fY;have hbY2:=zst hbX hbY;have dY:Bw Y Y.drew:=(Below.refl _ _).drew;have fxY:=hdr (zab hbY2 fx);have fYd:=hdr fY;have hbD:=zst hbY2 dY;have no:∀ {Z:World},Bw w Z->zcW x=false->(Ending.returned (.bool false)=Ending.returned (.bool (zcW x))/\Bw w Z):=fun {Z} hb h=>⟨rb h.symm,hb⟩;refine DrawE.ord [] [0,1,2,3,4,5,6,7,8,9,10,11,12,13,14,15,16,17,18,19,20,21,22,23] (by kernel_rfl) ?_;refine⟨k,rfl,hk48,?_⟩;refine⟨s64 d,by rw [hd];exact zse fxY hk48,?_⟩;refine⟨k,rfl,hk48,?_⟩;refine⟨s64 t,by rw [ht];exact zsl fxY hk48,?_⟩;refine⟨k,rfl,hk48,?_⟩;refine⟨s64 r,by rw [hr];exact zrA fxY hk48,?_⟩;refine⟨_,zcA d64 t64,?_⟩;refine⟨_,zcA dt64 r64,?_⟩;refine biE (fun h1=>?_) fun h1=>?_
  ·have h1:d|||t|||r=0:=Int.ofNat.inj (dT h1);rw [if_pos h1] at hgo;refine nxI (by omega) ?_;exact⟨(k+1,h),(cvE rfl rfl),⟨hkl,hgo,hh,hbD⟩,zdc (by omega)⟩
  have h1:¬ d|||t|||r=0:=fun e2=>(dF h1) (by rw [e2];rfl);rw [if_neg h1] at hgo;refine⟨u8 e.k,zac (zaa fYd) (i:=1) rfl,?_⟩;refine biE (fun h2=>?_) fun h2=>?_
  ·have h2:¬ e.k=1:=n8 (d:=1) h2;rw [if_neg fun h=>h2 h.1] at hgo;refine brT ?_;refine brT ?_;exact no hbD hgo.symm
  have h2:e.k=1:=y8 (d:=1) h2;refine⟨_,zcA d64 r64,?_⟩;refine⟨_,zdU dr64 hW64,?_⟩;refine biE (fun h3=>?_) fun h3=>?_
  ·have h3:¬ zco (d|||r) W=0:=n64 (b:=0) h3;rw [if_neg fun h=>h3 h.2.1] at hgo;refine brT ?_;exact no hbD hgo.symm
  have h3:zco (d|||r) W=0:=y64 (b:=0) h3;refine⟨_,zcA d64 t64,?_⟩;refine⟨_,zcA dt64 r64,?_⟩;refine⟨k,rfl,hk48,?_⟩;refine⟨s64 po,by rw [hpo];exact zrH fxY hk48,?_⟩;refine⟨_,zdU dtr64 p64,?_⟩;refine biE (fun h4=>?_) fun h4=>?_
  ·have h4:¬ zco (d|||t|||r) po=0:=n64 (b:=0) h4;rw [if_neg fun h=>h4 h.2.2] at hgo;exact no hbD hgo.symm
  have h4:zco (d|||t|||r) po=0:=y64 (b:=0) h4;rw [if_pos ⟨h2,h3,h4⟩] at hgo;refine cmo (zcJ r64 (hT.below hbD)) ?_;rintro e2 Z ⟨rfl,hbZ⟩;have hbZ2:=zst hbD hbZ;by_cases hr0:r=0
  ·have e1:(els r).isEmpty=true:=by rw [hr0];rfl
   rw [e1];rw [if_pos hr0] at hgo;refine brF ?_;refine nxI (by omega) ?_;exact⟨(k+1,h),(cvE rfl rfl),⟨hkl,hgo,hh,hbZ2⟩,zdc (by omega)⟩
  rw [if_neg hr0] at hgo;obtain⟨hhd,hem⟩:=zdp hr0 r64;rw [hhd,hem];have hmem:=znn hr0 r64;have hbit:r.testBit (ctz r)=true:=(zhz.1 hmem).2;have hvl:ctz r<x.ev.length:=by
   have:=(zjf hok hv.rm hk48 (by rw [<- hr];exact hbit)).1;rw [hrn] at this;omega
  obtain⟨v,hvd⟩:=nm (ctz r);rw [<- hvd] at hvl hgo ⊢;refine brT ?_;have fZ:=zab hbZ fYd;have dZ:Bw Z Z.drew:=(Below.refl _ _).drew;have hbZ3:=zst hbZ2 dZ;refine DrawE.ord [] [0,1,2,3,4,5,6,7,8,9,10,11,12,13,14,15,16,17,18,19,20,21,22,23] (by kernel_rfl) ?_;refine⟨by omega,((2^v:Nat):Int),zbX (e:=v) (by omega),?_⟩;refine biE (fun h5=>?_) fun h5=>?_
  ·have h5:¬ r=2^v:=n64 h5;rw [if_neg fun h=>h5 h.1] at hgo;refine brT ?_;refine brT ?_;exact no hbZ3 hgo.symm
  have h5:r=2^v:=y64 h5;refine⟨by omega,_,zg8 (a:=h) (k:=v) (by omega),?_⟩;refine⟨_,zbY (a:=h/2^v) (b:=1) (Nat.lt_of_le_of_lt (Nat.div_le_self _ _) hh) (by decide),?_⟩;rw [zjJ]
  cases hb5:h.testBit v with
  | true =>
   rw [if_neg fun h=>(by rw [hb5] at h;cases h.2.1)] at hgo;refine brT ?_;refine brT ?_;exact no hbZ3 hgo.symm
  | false =>
   refine brF ?_;obtain⟨bq2,oq2,hqe2,hb2,hat2⟩:=zeb (hv.ev.below hbZ3) hvl;rw [zgi] at hat2;obtain⟨f,hf⟩:=nm (evA x v);rw [<- hf] at hat2 hgo;refine⟨_,zac (zaa (zab hbZ3 fx)) (i:=0) rfl,?_⟩;refine⟨v,rfl,hvl,?_⟩;simp only [Option.some.injEq,Addr.mk.injEq,and_true] at hqe2;rw [<- hqe2.1,<- hqe2.2] at hat2;refine⟨u8 f.l,by have:=zac hat2 (i:=2) (v:=u8 f.l) rfl;exact this,?_⟩;refine⟨u8 e.l,zac (zaa (hdr fZ)) (i:=2) rfl,?_⟩;refine biE (fun h6=>?_) fun h6=>?_
   ·have h6:¬ f.l=e.l:=n8 h6;rw [if_neg fun h=>h6 h.2.2] at hgo;exact no hbZ3 hgo.symm
   have h6:f.l=e.l:=y8 h6;rw [if_pos ⟨h5,hb5,h6⟩] at hgo;refine⟨_,zcA hh r64,?_⟩;refine nxI (by omega) ?_;exact⟨(k+1,h|||r),(cvE rfl rfl),⟨hkl,hgo,Nat.or_lt_two_pow hh r64,hbZ3⟩,zdc (by omega)⟩
 ·have hc:¬ (k:Int)<(x.ev.length:Int):=dF hc;obtain rfl:k=x.ev.length:=by omega
  rw [List.drop_length] at hgo;exact⟨rb hgo,hbX⟩
end
theorem zkw {locs:Nat}:∀ (ev:List Ev) (i:Nat) (t:Int) (n:Nat),evGo locs i ev t n=true->∀ j,i+j<locs->j<ev.length->∃ v,ev.getD j ev0=⟨-1,2,UInt8.ofNat (i+j),v,0,0,0⟩
 | [],_,_,_,_,_,_,h=>by simp at h
 | e::ev,i,t,n,h,j,hj,hl=>by
  unfold evGo at h;rw [if_pos (by omega:i<locs)] at h;by_cases he:e=⟨-1,2,UInt8.ofNat i,e.v,0,0,0⟩
  ·rw [if_pos he] at h
   cases j with
   | zero=>exact⟨e.v,by rw [Nat.add_zero];exact he⟩
   | succ j =>
    obtain⟨v,hv⟩:=zkw ev (i+1) t n h j (by omega) (by simpa using hl);exact⟨v,by rw [show i+(j+1)=i+1+j by omega];exact hv⟩
  ·rw [if_neg he] at h;cases h
theorem zoM (ev:List Ev):zcH ev<=ev.length:=by
 unfold zcH
 induction ev with
 | nil=>exact Nat.le_refl _
 | cons e ev ih =>
  rw [List.takeWhile_cons]
  split
  ·rw [List.length_cons,List.length_cons];omega
  ·exact Nat.zero_le _
theorem znS {x:ExD} {locs:Nat} (h:zbP x.ev locs=true) (hl:locs<=x.ev.length) (h6:locs<=6):∀ l,l<locs->zfF x l≠[]:=by
 intro l hll he;obtain⟨v,hv⟩:=zkw x.ev 0 0 0 h l (by omega) (by omega);have:l∈zfF x l:=by
  unfold zfF;rw [List.mem_filter,List.mem_range];refine⟨by omega,?_⟩;have h2:evA x l=⟨-1,2,UInt8.ofNat (0+l),v,0,0,0⟩:=hv;rw [h2,bAT,dE,dE];refine⟨rfl,?_⟩;show (UInt8.ofNat (0+l)).toNat=l;rw [Nat.zero_add,UInt8.toNat_ofNat'];exact Nat.mod_eq_of_lt (by omega)
 rw [he] at this
 cases this
abbrev zfj (x:ExD):List RelD:=[x.po,x.rf,x.co,x.dt,x.ct,x.rm]
theorem zqI (x:ExD) (q:Option Addr) (c:Nat) {i:Nat} (hi:i<6):((exC x q c).drop (1+49*i)).take 49=relC ((zfj x).getD i x.po):=by
 have g:∀ {A T:List Value} {o:Nat} {r:RelD},A.length=o->exC x q c=A++(relC r++T)->((exC x q c).drop o).take 49=relC r:=fun {A T o r} hA hE=>by
  rw [hE,<- hA,List.drop_left,List.take_append_of_le_length (by rw [zae];decide),List.take_of_length_le (by rw [zae];decide)]
 match i,hi with
 | 0,_=>obtain⟨A,T,hA,hE⟩:=zqD x q c [];exact g hA (by rw [<- hE,List.append_nil];rfl)
 | 1,_=>obtain⟨A,T,hA,hE⟩:=zr6 x q c [];exact g hA (by rw [<- hE,List.append_nil];rfl)
 | 2,_=>obtain⟨A,T,hA,hE⟩:=zr9 x q c [];exact g hA (by rw [<- hE,List.append_nil];rfl)
 | 3,_=>obtain⟨A,T,hA,hE⟩:=zqE x q c [];exact g hA (by rw [<- hE,List.append_nil];rfl)
 | 4,_=>obtain⟨A,T,hA,hE⟩:=zqF x q c [];exact g hA (by rw [<- hE,List.append_nil];rfl)
 | 5,_=>obtain⟨A,T,hA,hE⟩:=zqB x q c [];exact g hA (by rw [<- hE,List.append_nil];rfl)
theorem zp3 (L:Nat) {k:Nat} (hk:k<6):((List.range 6).map (fun i=>Value.pointer (some ⟨L,0+(1+49*i),none⟩)))[k]?=some (.pointer (some ⟨L,0+(1+49*k),none⟩)):=by
 rw [List.getElem?_map,List.getElem?_range hk];rfl
def okX (x:ExD) (r:RelD):Bool:=decide (r.n=x.ev.length)&&okR r
section
variable {c:Nat} {x:ExD} {q:Option Addr} {w:World}
theorem zfN {X:World} {b:Nat} (fx:ExH X b x q c) {i:Nat} (hi:i<6):zav X ⟨b,0+(1+49*i),none⟩ (relC ((zfj x).getD i x.po)):=by
 have h:=zaF (n:=1+49*i) (m:=49) (zaa fx);rw [show (exC x q c).toArray.toList=exC x q c from rfl,zqI x q c hi] at h;exact h
theorem ExV.rel (hv:ExV w x q) {i:Nat} (hi:i<6):WrdR ((zfj x).getD i x.po).to:=by
 match i,hi with
 | 0,_=>exact hv.po
 | 1,_=>exact hv.rf
 | 2,_=>exact hv.co
 | 3,_=>exact hv.dt
 | 4,_=>exact hv.ct
 | 5,_=>exact hv.rm
theorem zfE (hv:ExV w x q) (hT:Tz64M w):CB 20 #[.agg (exC x q c).toArray] w (.bool (zbF x)):=by
 refine cofM 70 [.agg (exC x q c).toArray] (.c .p (.c .p (.c .p (.c .p (.c .p .p))))) Tryz.func20 ?_;obtain⟨L,hL⟩:=nm (w.heap.size);have hn:=hv.n;refine⟨Unit,fun _=>⟨[(1,At0 L)],[]⟩,fun _ X=>ExH X L x q c/\Bw w X,⟨(),⟨.cons (by rw [hL];rfl) .nil,rfl⟩,by rw [hL];exact hnew w _,(zba w _)⟩,?_⟩;rintro _ X ⟨fx,hbX⟩;obtain⟨n,hnn⟩:=nm (zcH x.ev);refine⟨Unit,fun _=>⟨[(1,At0 L)],[]⟩,fun _ Y=>X=Y,?_,?_⟩
 ·refine⟨_,zac (zaa fx) (i:=0) rfl,?_⟩;refine biE (fun h=>?_) fun _=>?_
  ·have h:(48:Int)<(x.ev.length:Nat):=dT h;omega
  exact⟨(),(cvE rfl rfl),rfl⟩
 rintro _ _ rfl;refine⟨Unit,fun _=>⟨[(1,At0 L),(3,i64 (n:Nat))],[]⟩,fun _ Y=>Bw X Y,?_,?_⟩
 ·refine⟨_,zac (zaa fx) (i:=0) rfl,?_⟩;refine cmo (zlk (hv.below hbX).ev (by omega)) ?_;rintro e Y ⟨rfl,hbY⟩;rw [<- hnn];exact⟨(),(cvE rfl rfl),hbY⟩
 rintro _ Y hbY;have hvX:=hv.below hbX;have hnl:n<=x.ev.length:=by rw [hnn];exact zoM _
 have hbwY:=zst hbX hbY;have hr0:decide (x.ev.length<=48)=true:=decide_eq_true (by omega);have no:∀ {Z:World},Bw w Z->zbF x=false->(Ending.returned (.bool false)=Ending.returned (.bool (zbF x))/\Bw w Z):=fun {Z} hb h=>⟨rb h.symm,hb⟩;refine⟨Unit,fun _=>⟨[(1,At0 L),(3,i64 (n:Nat))],[]⟩,fun _ Z=>zbP x.ev n=true/\(1<=n/\n<=6)/\ExH Z L x q c/\Bw w Z,?_,?_⟩
 ·refine biE (fun h1=>?_) fun h1=>?_
  ·have h1:(n:Int)<1:=dT h1;refine brT ?_;refine brT ?_;refine no hbwY ?_;unfold zbF;rw [<- hnn,decide_eq_false (by omega:¬ 1<=n),Bool.false_and,Bool.and_false]
  have h1:¬ (n:Int)<1:=dF h1;refine biE (fun h2=>?_) fun h2=>?_
  ·have h2:(6:Int)<(n:Int):=dT h2;refine brT ?_;refine no hbwY ?_;unfold zbF;rw [<- hnn,decide_eq_false (by omega:¬ n<=6),Bool.false_and,Bool.and_false,Bool.and_false]
  have h2:¬ (6:Int)<(n:Int):=dF h2;have hn1:decide (1<=n)=true:=decide_eq_true (by omega);have hn6:decide (n<=6)=true:=decide_eq_true (by omega);have fY:=zab hbY fx;refine⟨_,zac (zaa fY) (i:=0) rfl,?_⟩;refine cmo (zhP (locs:=n) (hvX.below hbY).ev (by omega) (by omega)) ?_;rintro e Z ⟨rfl,hbZ⟩;have hbwZ:=zst hbwY hbZ;refine biE (fun h3=>?_) fun h3=>?_
  ·have h3:zbP x.ev n=false:=by
    have h3:(!zbP x.ev n)=true:=h3;simpa using h3
   refine no hbwZ ?_;unfold zbF;rw [<- hnn,h3,Bool.false_and,Bool.and_false,Bool.and_false,Bool.and_false]
  have h3:zbP x.ev n=true:=by
   have h3:(!zbP x.ev n)=false:=h3;simpa using h3
  exact⟨(),(cvE rfl rfl),h3,by omega,zab hbZ fY,hbwZ⟩
 rintro _ Z ⟨h3,⟨h1,h2⟩,fZ,hbwZ⟩;clear fx hbX hbY hbwY hvX;have hn1:decide (1<=n)=true:=decide_eq_true h1;have hn6:decide (n<=6)=true:=decide_eq_true h2;have hright:zbF x=(zdE x&&(zeW x.po (poR x.ev)&&(zdD x&&(zdQ x n&&zcW x)))):=by
  unfold zbF;rw [<- hnn,hr0,hn1,hn6,h3];rfl
 have hrels:zdE x=(zfj x).all (okX x):=rfl;refine⟨Unit,fun _=>⟨[(1,At0 L),(3,i64 (n:Nat))],[]⟩,fun _ U=>zdE x=true/\ExH U L x q c/\Bw w U,?_,?_⟩
 ·refine⟨⟨by decide,by decide,rfl⟩,(List.range 6).map (fun i=>Value.pointer (some ⟨L,0+(1+49*i),none⟩)),rfl,?_⟩;obtain⟨g,hg⟩:=nm (Z.heap.size);refine⟨Nat,fun k=>⟨[(1,At0 L),(3,i64 (n:Nat)),(32,.slice (some ⟨g,0,none⟩) 6 6),(33,i64 6),(34,i64 (k:Nat))],[]⟩,fun k U=>k<=6/\((zfj x).take k).all (okX x)=true/\U.heap[g]?=some (.cells ((List.range 6).map (fun i=>Value.pointer (some ⟨L,0+(1+49*i),none⟩))).toArray 136 (0,0))/\ExH U L x q c/\Bw w U,fun k=>6-k,0,
   ⟨.cons rfl (.cons rfl (.cons (by rw [hg];rfl) (.cons rfl (.cons rfl .nil)))),rfl⟩,⟨Nat.zero_le _,rfl,by rw [hg];exact hnew Z _,hold _ fZ,hbwZ.alloc hbwZ.size _⟩,?_⟩
  clear hg fZ hbwZ;rintro k U ⟨hk,hall,fg,fU,hbU⟩;dsimp only;refine biE (fun hc=>?_) fun hc=>?_
  ·have hc:(k:Int)<6:=dT hc;have hk6:k<6:=by omega
   obtain⟨r,hr⟩:=nm ((zfj x).getD k x.po);have hkl:k<(zfj x).length:=hk6;have htk:(zfj x).take (k+1)=(zfj x).take k++[r]:=by
    rw [tsg hkl,hr,gDe,gE hkl];rfl
   have hrw:WrdR r.to:=by rw [hr];exact hv.rel hk6
   have hcel:zav U ⟨L,0+(1+49*k),none⟩ (relC r):=by rw [hr];exact zfN fU hk6
   have dU:Bw U U.drew:=(Below.refl _ _).drew;have hrm:r∈zfj x:=by
    rw [hr,gDe,gE hkl];exact gM hkl
   have bad:∀ {Z:World},Bw w Z->okX x r=false->(Ending.returned (.bool false)=Ending.returned (.bool (zbF x))/\Bw w Z):=fun {Z} hb h=>no hb (by
    have:zdE x=false:=by
     rw [hrels,List.all_eq_false];exact⟨r,hrm,by rw [h];decide⟩
    rw [hright,this];rfl)
   refine⟨k,rfl,hk6,?_⟩;refine⟨.pointer (some ⟨L,0+(1+49*k),none⟩),by
    have:=zac (zaa fg) (i:=k*1) (v := .pointer (some ⟨L,0+(1+49*k),none⟩)) (by
     rw [Nat.mul_one];exact zp3 L hk6)
    exact this,?_⟩
   refine DrawE.ord [] [0,1,2,3,4,5,6,7,8,9,10,11,12,13,14] (by kernel_rfl) ?_;refine⟨i64 r.n,zac (zar dU hcel) (i:=0) rfl,?_⟩;refine⟨_,zac (zaa (hdr fU)) (i:=0) rfl,?_⟩;refine biE (fun h4=>?_) fun h4=>?_
   ·have h4:(!decide (r.n=(x.ev.length:Int)))=true:=h4;have h4:¬ r.n=(x.ev.length:Int):=(by simpa using h4);refine brT ?_;exact bad ((zst hbU dU)) (by unfold okX;rw [decide_eq_false h4];rfl)
   have h4:(!decide (r.n=(x.ev.length:Int)))=false:=h4;have h4:r.n=(x.ev.length:Int):=by simpa using h4
   refine⟨relC r,zae _,zar dU hcel,hlt (hdr fU),?_⟩;refine cmo (zbp hrw) ?_;rintro e V ⟨rfl,hbV⟩;refine⟨hbV,?_⟩;have hbV2:=hbU.trans ((dU.trans hbV).mono hbU.size);refine biE (fun h5=>?_) fun h5=>?_
   ·have h5:okR r=false:=by
     have h5:(!okR r)=true:=h5;simpa using h5
    exact bad hbV2 (by unfold okX;rw [h5,Bool.and_false])
   have h5:okR r=true:=by
    have h5:(!okR r)=false:=h5;simpa using h5
   refine nxI (by omega) ?_;refine⟨k+1,(cvE rfl rfl),⟨hk6,?_,zab (dU.trans hbV) fg,zab (dU.trans hbV) fU,hbV2⟩,zdc (by omega)⟩;rw [htk,List.all_append,hall];show (true&&(okX x r&&true))=true;unfold okX;rw [decide_eq_true h4,h5];rfl
  ·have hc:¬ (k:Int)<6:=dF hc;obtain rfl:k=6:=by omega
   exact⟨(),(cvE rfl rfl),hall,fU,hbU⟩
 rintro _ U ⟨hrr,fU,hbU⟩;rw [hrr,Bool.true_and] at hright;have hall:∀ r∈zfj x,r.n=x.ev.length/\okR r=true:=fun r hr=>by
  rw [hrels,List.all_eq_true] at hrr;have:=hrr r hr;unfold okX at this;rw [bAT,dE] at this;exact this
 have hrf:=hall x.rf (by simp);have hrm:=hall x.rm (by simp);have hvU:=hv.below hbU;have dU:Bw U U.drew:=(Below.refl _ _).drew;have hvD:=hvU.below dU;have hbD:=zst hbU dU;refine DrawE.ord [] [0,1,2,3,4,5,6,7,8,9,10,11,12,13,14,15,16] (by kernel_rfl) ?_;refine⟨relC x.po,zae _,zfN (hdr fU) (i:=0) (by decide),hlt (hdr fU),?_⟩;refine⟨_,zac (zaa (hdr fU)) (i:=0) rfl,?_⟩;refine cmo (zd8 hvD.ev (by omega)) ?_;rintro e V ⟨rfl,hbV⟩;refine⟨hbV,?_⟩;have hbV2:=zst hbD hbV;have fV:=zab hbV (hdr fU);have hvV:=hvD.below hbV;refine⟨_,fun w=>zne _ _ x.po (poR x.ev) w,?_⟩;refine biE (fun h4=>?_) fun h4=>?_
 ·have h4:zeW x.po (poR x.ev)=true:=h4;rw [h4,Bool.true_and] at hright;refine cmo (zmh fV hvV hrf.1 hrf.2 (hT.below hbV2)) ?_;rintro e T ⟨rfl,hbT⟩;refine⟨hbT,?_⟩;have hbT2:=zst hbV2 hbT;refine biE (fun h5=>?_) fun h5=>?_
  ·have h5:zdD x=true:=h5;rw [h5,Bool.true_and] at hright;refine cmo (znt (locs:=n) (zab hbT fV) (hvV.below hbT) (by omega) (znS h3 hnl (by omega)) (hT.below hbT2)) ?_;rintro e R ⟨rfl,hbR⟩;refine⟨hbR,?_⟩;have hbR2:=zst hbT2 hbR;refine biE (fun h6=>?_) fun h6=>?_
   ·have h6:zdQ x n=true:=h6;rw [h6,Bool.true_and] at hright;refine cmo (zln (zab hbR (zab hbT fV)) ((hvV.below hbT).below hbR) hrm.1 hrm.2 (hT.below hbR2)) ?_;rintro e Q ⟨rfl,hbQ⟩;exact⟨hbQ,rb hright.symm,(zst hbR2 hbQ)⟩
   ·have h6:zdQ x n=false:=h6;rw [h6,Bool.false_and] at hright;exact⟨rb hright.symm,hbR2⟩
  ·have h5:zdD x=false:=h5;rw [h5,Bool.false_and] at hright;refine brF ?_;exact⟨rb hright.symm,hbT2⟩
 ·have h4:zeW x.po (poR x.ev)=false:=h4;rw [h4,Bool.false_and] at hright;refine brF ?_;refine brF ?_;exact⟨rb hright.symm,hbV2⟩
end
theorem zoU {a b:RelD} {f:Nat->Nat} (h:a.n=b.n->okR a=true->okR b=true->∀ i,i<48->f i<2^64):WrdR (comb a b f).1.to:=by
 unfold comb
 split
 ·rename_i hc;rw [bAT,bAT,dE] at hc;exact zeN fun i _ hi=>h hc.1 hc.2.1 hc.2.2 i hi
 ·exact fun i _=>(by show 0<2^64;decide)
theorem zn4 {a b:RelD} (ha:WrdR a.to) (hb:WrdR b.to):WrdR (zh3 a b).1.to:=zoU fun _ h _ i hi=>by
 unfold zff;exact zks hb _ _ (by decide) fun j hj=>(zje h ha hi j hj).2
theorem zet (k:Nat) (p:Nat->Bool):rowP (k+1) p=if p k=true then rowP k p|||2^k else rowP k p:=by
 unfold rowP;rw [List.range_succ,List.foldl_append];rfl
theorem zfL (p:Nat->Bool):∀ k,k<=64->rowP k p<2^64
 | 0,_=>by show 0<_;decide
 | k+1,h=>by
  rw [zet]
  split
  ·exact Nat.or_lt_two_pow (zfL p k (by omega)) (zaN (by omega))
  ·exact zfL p k (by omega)
theorem zfu {n:Nat} {p:Nat->Nat->Bool} (hn:n<=64):WrdR (zd4 n p).to:=zeN fun i _ _=>zfL _ n hn
def zch (n:Nat) (p:Nat->Nat->Bool) (a k:Nat):Nat->Nat:=fun i=>if i<a then rowP n (p i) else if i=a then rowP k (p a) else 0
theorem zj6 (n:Nat) (p:Nat->Nat->Bool) (a k:Nat):zch n p a k a=rowP k (p a):=by
 unfold zch;rw [if_neg (by omega),if_pos rfl]
theorem zmd {n:Nat} {p:Nat->Nat->Bool} {a k:Nat} (h:p a k=true):upd (zch n p a k) a (zch n p a k a|||2^k)=zch n p a (k+1):=by
 funext i;by_cases hi:i=a
 ·subst hi;rw [zbo,zj6,zj6,zet,if_pos h]
 ·rw [zcN _ _ hi];unfold zch;rw [if_neg hi,if_neg hi]
theorem zk1 {n:Nat} {p:Nat->Nat->Bool} {a k:Nat} (h:p a k=false):zch n p a k=zch n p a (k+1):=by
 have e:rowP (k+1) (p a)=rowP k (p a):=by rw [zet,if_neg (by rw [h];decide)]
 funext i;unfold zch;rw [e]
theorem zk2 (n:Nat) (p:Nat->Nat->Bool) (a:Nat):zch n p a n=zch n p (a+1) 0:=by
 funext i;unfold zch;by_cases h1:i<a
 ·rw [if_pos h1,if_pos (by omega)]
 ·by_cases h2:i=a
  ·subst h2;rw [if_neg h1,if_pos rfl,if_pos (by omega)]
  ·rw [if_neg h1,if_neg h2,if_neg (by omega)]
   split
   ·rfl
   ·rfl
theorem zk0 (n:Nat) (p:Nat->Nat->Bool):zch n p 0 0=fun _=>0:=by
 funext i;unfold zch;rw [if_neg (by omega)]
 split <;> rfl
theorem zme (n:Nat) (p:Nat->Nat->Bool):zch n p n 0=(zd4 n p).to:=by
 funext i;unfold zch zd4 zb7;show _=if i<n then _ else 0
 by_cases h:i<n
 ·rw [if_pos h,if_pos h]
 ·rw [if_neg h,if_neg h]
  split <;> rfl
theorem zmc {n:Nat} {p:Nat->Nat->Bool} {a k:Nat} (hn:n<=64) (hk:k<=64):WrdR (zch n p a k):=fun i _=>by
 unfold zch
 split
 ·exact zfL _ n hn
 ·split
  ·exact zfL _ k hk
  ·decide
theorem zq8 {s b:Nat}:decide ((((s/2^b&&&1:Nat):Nat):Int)=1)=s.testBit b:=by
 rw [zjJ]
 cases s.testBit b <;> rfl
section
variable {w:World}
theorem ziO {b o a d:Nat} {r:RelD} (hc:∀ i,i<48->w.cell? ⟨b,o+1+i*1,none⟩=some (s64 (r.to i))) (hr:WrdR r.to) (ha:a<48) (hd:d<48) :
  Calls Tryz.prog 154 #[.pointer (some ⟨b,o,none⟩),i64 (a:Nat),i64 (d:Nat)] w fun e w'=>e = .returned (.bool (hasM r a d))/\w=w':=by
 refine cofE 17 [.pointer (some ⟨b,o,none⟩),i64 (a:Nat),i64 (d:Nat)] Tryz.func154 ?_;refine⟨a,rfl,ha,?_⟩;refine⟨_,hc a ha,?_⟩;refine⟨by omega,_,zg8 (a:=r.to a) (k:=d) (by omega),?_⟩;refine⟨_,zbY (a:=r.to a/2^d) (b:=1) (Nat.lt_of_le_of_lt (Nat.div_le_self _ _) (hr a ha)) (by decide),?_⟩;exact⟨rb zq8,rfl⟩
theorem zkI {e:Ev}:Calls Tryz.prog 209 #[.agg (evE.enc e).toArray] w fun r w'=>r = .returned (.bool (decide (e.k=1)||decide (e.k=2)))/\Bw w w':=by
 refine cofE 11 [.agg (evE.enc e).toArray] Tryz.func209 ?_;have f:=hnew w (.cells (evE.enc e).toArray 208);have hb:Bw w (w.alloc (.cells (evE.enc e).toArray 208)):=zba w _;refine⟨u8 e.k,zac (zaa f) (i:=1) rfl,?_⟩;refine biE (fun h=>?_) fun h=>?_
 ·have h:e.k=1:=zbM.1 (dT h);exact⟨rb (by rw [decide_eq_true h];rfl),hb⟩
 ·have h:¬ e.k=1:=fun e2=>(dF h) (by rw [e2];rfl);refine⟨u8 e.k,zac (zaa f) (i:=1) rfl,?_⟩;refine⟨rb ?_,hb⟩;rw [decide_eq_false h,Bool.false_or];exact decide_eq_decide.2 (zbM (x:=e.k) (y:=2))
theorem zmy {n g:Nat} {caps:Array Value} {p:Nat->Nat->Bool} (hn:n<=48) (hok:zbQ (sg 0) g=true)
  (hp:∀ a d X,a<n->d<n->Bw w X->Calls Tryz.prog g (i64 (a:Nat)::i64 (d:Nat)::caps.toList).toArray X fun e Y=>e = .returned (.bool (p a d))/\Bw X Y) :
  CB 152 #[i64 n,.func (.func g) #[] caps] w (.agg (relC (zd4 n p)).toArray):=by
 refine cofM 34 [i64 n,.func (.func g) #[] caps] (.c .p (.c .p (.c .p .p))) Tryz.func152 ?_;obtain⟨L,hL⟩:=nm (w.heap.size);refine⟨Unit,fun _=>⟨[(0,i64 n),(1,.func (.func g) #[] caps),(4,At0 L)],[]⟩,fun _ X=>RelH X L zax/\X.heap.size=L+1/\Bw w X,?_,?_⟩
 ·exact⟨(),⟨.cons rfl (.cons rfl (.cons (by rw [hL];rfl) .nil)),rfl⟩,by rw [hL];exact hnew w _,by rw [hL];exact wz _ _,(zba w _)⟩
 rintro _ X ⟨f0,sX,hbX⟩;refine⟨Unit,fun _=>⟨[(0,i64 n),(1,.func (.func g) #[] caps),(4,At0 L),(5,At0 (L+1))],[]⟩,fun _ Y=>RelH Y (L+1) ⟨n,zch n p 0 0⟩/\Y.heap.size=L+2/\Bw X Y,?_,?_⟩
 ·refine⟨relC ⟨n,fun _=>0⟩,by kernel_rfl,?_⟩;refine zal (X:=X) (v := .agg (relC ⟨n,fun _=>0⟩).toArray) k40 (zae _) (by kernel_rfl) (zaD _) fun Z hbZ fZ sZ=>?_;rw [sX] at fZ sZ;exact⟨(),⟨.cons rfl (.cons rfl (.cons rfl (.cons (by rw [<- sX];rfl) .nil))),rfl⟩,by rw [zk0];exact fZ,sZ,hbZ⟩
 rintro _ Y ⟨f1,sY,hbY⟩;have hbwY:=zst hbX hbY;have f0:=zab hbY f0;refine⟨Unit,fun _=>⟨[(4,At0 L),(5,At0 (L+1))],[]⟩,fun _ Z=>RelH Z (L+1) (zd4 n p)/\RelH Z L zax/\Bw w Z,?_,?_⟩
 ·refine⟨Nat,fun a=>⟨[(0,i64 n),(1,.func (.func g) #[] caps),(4,At0 L),(5,At0 (L+1)),(10,i64 n),(11,i64 (a:Nat))],[]⟩,fun a Z=>a<=n/\RelH Z (L+1) ⟨n,zch n p a 0⟩/\RelH Z L zax/\Bw w Z,fun a=>n-a,0,
   (cvE rfl rfl),⟨Nat.zero_le _,f1,f0,hbwY⟩,?_⟩
  rintro a Z ⟨ha,f1,f0,hbZ⟩;dsimp only at f1 ⊢;refine biE (fun hc=>?_) fun hc=>?_
  ·have hc:(a:Int)<(n:Int):=dT hc;have han:a<n:=by omega
   refine⟨Nat,fun d=>⟨[(0,i64 n),(1,.func (.func g) #[] caps),(4,At0 L),(5,At0 (L+1)),(6,i64 (a:Nat)),(10,i64 n),(11,i64 (a:Nat)),(14,i64 n),(15,i64 (d:Nat))],[]⟩,fun d V=>d<=n/\RelH V (L+1) ⟨n,zch n p a d⟩/\RelH V L zax/\Bw w V,fun d=>n-d,0,
    (cvE rfl rfl),⟨Nat.zero_le _,f1,f0,hbZ⟩,?_⟩
   clear f1 f0 hbZ;rintro d V ⟨hd,f1,f0,hbV⟩;dsimp only at f1 ⊢;refine biE (fun hc=>?_) fun hc=>?_
   ·have hc:(d:Int)<(n:Int):=dT hc;have hdn:d<n:=(by omega);refine zkA hok (hp a d V han hdn hbV) ?_;rintro e U ⟨rfl,hbU⟩;refine⟨_,rfl,?_⟩;have f1:=zab hbU f1;have f0:=zab hbU f0;have hbU2:=zst hbV hbU;have sU:=hbU2.size;refine biE (fun h=>?_) fun h=>?_
    ·have h:p a d=true:=h;have hR:RelAt U (L+1) 0 40 [] [] ⟨n,zch n p a d⟩:=⟨rfl,by simpa using f1⟩;have dU:Bw U U.drew:=(Below.refl _ _).drew;have ha48:a<48:=(by omega);refine DrawE.ord [9] [0,1,2,3,4,5,6,7,8,9] (by kernel_rfl) ?_;refine⟨a,rfl,ha48,?_⟩;refine⟨s64 (zch n p a d a),(hR.same (Y:=U.drew) rfl).cell ha48,?_⟩;refine⟨by omega,_,zbX (e:=d) (by omega),?_⟩;refine⟨_,zcA (zmc (by omega) (by omega) a ha48) (zaN (by omega)),?_⟩;refine⟨a,rfl,ha48,?_⟩;refine zaq k37 (hR.same (Y:=U.drew) rfl).cells (o:=0+1+a*1) (v:=s64 (zch n p a d a|||2^d)) rfl rfl (by rw [hR.len];omega) rfl fun S fS gS sS=>?_;rw [hR.set ha48] at fS;have e5:upd (zch n p a d) a (zch n p a d a|||2^d)=zch n p a (d+1):=zmd h;dsimp only at fS;rw [e5] at fS;have gS2:U.grownBy S (some (L+1)):=zaf (zag dU) gS;refine nxI (by omega) ?_;exact⟨d+1,(cvE rfl rfl),⟨hdn,by simpa using fS,(gS2.block L (hlt f0) (by simp)).trans f0,hbU2.trans (zak gS2 sU (by omega))⟩,zdc (by omega)⟩
    ·have h:p a d=false:=h;refine nxI (by omega) ?_;exact⟨d+1,(cvE rfl rfl),⟨hdn,by rw [<- zk1 h];exact f1,f0,hbU2⟩,zdc (by omega)⟩
   ·have hc:¬ (d:Int)<(n:Int):=dF hc;obtain rfl:d=n:=(by omega);refine nxI (by omega) ?_;exact⟨a+1,(cvE rfl rfl),⟨han,by rw [<- zk2];exact f1,f0,hbV⟩,zdc (by omega)⟩
  ·have hc:¬ (a:Int)<(n:Int):=dF hc;obtain rfl:a=n:=by omega
   rw [zme] at f1;exact⟨(),(cvE rfl rfl),f1,f0,hbZ⟩
 rintro _ Z ⟨f1,f0,hbZ⟩;refine⟨relC (zd4 n p),zae _,zaa f1,hlt f1,?_⟩;refine zas (v := .agg (relC (zd4 n p)).toArray) k40 f0 (zae _) (zae _) (zaD _) ?_;exact⟨relC (zd4 n p),zae _,zaa (zan f0),rfl,zaj hbZ (by omega) _⟩
end
section
variable {w:World} {b c:Nat} {x:ExD} {q:Option Addr}
theorem zcI {X:World} (fx:zav X ⟨b,0,none⟩ (exC x q c)):X.cell? ⟨b,0+0,none⟩=some (.slice q x.ev.length c):=zac fx (i:=0) rfl
theorem zpz (x:ExD) (i:Nat):(decide ((evA x i).k=1)||decide ((evA x i).k=2))=accA x i:=rfl
theorem zgV {X:World} (hv:SlR evE X q x.ev) {a:Nat} (ha:a<x.ev.length):∃ bq oq,q=some ⟨bq,oq,none⟩/\bq<X.heap.size/\zav X ⟨bq,oq+a*7,none⟩ (evE.enc (evA x a)):=zeb hv ha
theorem zrz {a d:Nat} (fx:zav w ⟨b,0,none⟩ (exC x q c)) (hv:SlR evE w q x.ev) (ha:a<x.ev.length) (hd:d<x.ev.length) :
  CB 155 #[At0 b,i64 (a:Nat),i64 (d:Nat)] w (.bool (zi5 x a d)):=by
 refine cofM 44 [At0 b,i64 (a:Nat),i64 (d:Nat)] (.c .p .p) Tryz.func155 ?_;refine⟨Unit,fun _=>⟨[(0,At0 b),(1,i64 (a:Nat)),(2,i64 (d:Nat))],[]⟩,fun _ X=>w=X,⟨(),(cvE rfl rfl),rfl⟩,?_⟩;rintro _ _ rfl;obtain⟨bq,oq,hqe,hb,hat⟩:=zgV hv ha;obtain⟨bq2,oq2,hqe2,hb2,hat2⟩:=zgV hv hd;rw [hqe] at hqe2;simp only [Option.some.injEq,Addr.mk.injEq,and_true] at hqe2;rw [<- hqe2.1,<- hqe2.2] at hat2;subst hqe;have dw:Bw w w.drew:=(Below.refl _ _).drew;refine DrawE.ord [] [0,1,2,3,4,5,6,7,8,9,10,11,12,13,14,15,16,17,18,19,20,21,22,23,24,25,26,27,28,29,30,31,32,33,34,35,36,37] (by kernel_rfl) ?_;refine⟨_,zcI (zar dw fx),?_⟩;refine⟨a,rfl,ha,?_⟩;refine⟨evE.enc (evA x a),rfl,zar dw hat,nL hb dw.size,?_⟩;refine cmo zkI ?_;rintro e X ⟨rfl,hbX⟩;refine⟨hbX,?_⟩;have bX:=dw.trans hbX;rw [zpz];refine biE (fun h1=>?_) fun h1=>?_
 ·have h1:accA x a=true:=h1;refine⟨_,zcI (zar bX fx),?_⟩;refine⟨d,rfl,hd,?_⟩;refine⟨evE.enc (evA x d),rfl,zar bX hat2,nL hb bX.size,?_⟩;refine cmo zkI ?_;rintro e Y ⟨rfl,hbY⟩;refine⟨hbY,?_⟩;have bY:=zst bX hbY;rw [zpz];refine biE (fun h2=>?_) fun h2=>?_
  ·have h2:accA x d=true:=h2;refine⟨_,zcI (zar bY fx),?_⟩;refine⟨a,rfl,ha,?_⟩;refine⟨u8 (evA x a).l,by have:=zac (zar bY hat) (i:=2) (v:=u8 (evA x a).l) rfl;exact this,?_⟩;refine⟨_,zcI (zar bY fx),?_⟩;refine⟨d,rfl,hd,?_⟩;refine⟨u8 (evA x d).l,by have:=zac (zar bY hat2) (i:=2) (v:=u8 (evA x d).l) rfl;exact this,?_⟩;refine⟨rb ?_,bY⟩;unfold zi5;rw [h1,h2,Bool.true_and,Bool.true_and];exact decide_eq_decide.2 zbM
  ·have h2:accA x d=false:=h2;refine⟨rb ?_,bY⟩;unfold zi5;rw [h1,h2];rfl
 ·have h1:accA x a=false:=h1;refine brF ?_;refine⟨rb ?_,bX⟩;unfold zi5;rw [h1];rfl
end
structure ScnV (X:World) (b:Nat) (x:ExD) (q:Option Addr) (c:Nat) (f l s:RelD):Prop where
 h:X.heap[b]?=some (.cells (exC x q c++(relC f++(relC l++relC s))).toArray 290 (0,0))
 v:ExV X x q
 wf:WrdR f.to
 wl:WrdR l.to
 ws:WrdR s.to
section
variable {w:World} {b c:Nat} {x:ExD} {q:Option Addr} {f l s:RelD}
theorem ScnV.below {X Y:World} (h:ScnV X b x q c f l s) (hb:Bw X Y):ScnV Y b x q c f l s:=⟨zab hb h.h,h.v.below hb,h.wf,h.wl,h.ws⟩
theorem ScnV.cells {X:World} (h:ScnV X b x q c f l s):zav X ⟨b,0,none⟩ (exC x q c):=by
 have:=zaF (n:=0) (m:=333) (zaa h.h);have e:((exC x q c++(relC f++(relC l++relC s))).toArray.toList.drop 0).take 333=exC x q c:=by
  show (exC x q c++_).take 333=_;rw [List.take_append_of_le_length (by rw [zaB];decide),List.take_of_length_le (by rw [zaB];decide)]
 rw [e] at this;exact this
theorem ScnV.at {X:World} {o:Nat} {r:RelD} (h:ScnV X b x q c f l s) (hr:∃ A T,A.length=o/\exC x q c++(relC f++(relC l++relC s))=A++(relC r++T)):∀ i,i<48->X.cell? ⟨b,o+1+i*1,none⟩=some (s64 (r.to i)):=by
 intro i hi;obtain⟨A,T,hA,hE⟩:=hr;have:(exC x q c++(relC f++(relC l++relC s)))[o+1+i*1]?=some (s64 (r.to i)):=by
  rw [hE,Nat.mul_one,Nat.add_assoc,zbt hA,List.getElem?_append_left (by rw [zae];omega),zhl r hi]
 have h2:=zac (zaa h.h) this;rw [Nat.zero_add] at h2;exact h2
end
abbrev orG (l:List Nat):Nat:=l.foldl (fun s i=>s|||2^i) 0
section
variable {b c:Nat} {x:ExD} {q:Option Addr} {w:World}
theorem zbU {X:World} (fx:ExH X b x q c) {i:Nat} (hi:i<6) {o:Nat} (ho:o=1+49*i):zav X ⟨b,0+o,none⟩ (relC ((zfj x).getD i x.po)):=by
 rw [ho];exact zfN fx hi
theorem zpo (hv:ExV w x q) (hT:Tz64M w):WrdR (zbJ x.rf).to/\WrdR (frM x).to:=by
 have h1:WrdR (zbJ x.rf).to:=by
  unfold zbJ
  split
  ·rename_i h;intro i hi;refine Nat.lt_of_not_le fun hge=>?_;obtain⟨j,hj1,hj2⟩:=Nat.exists_ge_and_testBit_of_ge_two_pow hge;rw [show ((⟨x.rf.n,zc5 x.rf.to x.rf.n.toNat⟩:RelD).to i)=zc5 x.rf.to x.rf.n.toNat i from rfl,zgq,bAT,dE] at hj2;have h48:=(zbx h).2.1;omega
  ·exact fun i _=>(by show 0<2^64;decide)
 exact⟨h1,zn4 h1 hv.co⟩
theorem fr_c (fx:ExH w b x q c) (hv:ExV w x q) (hT:Tz64M w):CB 151 #[At0 b] w (.agg (relC (frM x)).toArray):=by
 refine cofM 19 [At0 b] (.c .p (.c .p .p)) Tryz.func151 ?_;obtain⟨L,hL⟩:=nm (w.heap.size);obtain⟨wb,wf⟩:=zpo hv hT;refine⟨Unit,fun _=>⟨[(0,At0 b),(2,At0 L)],[]⟩,fun _ X=>RelH X L zax/\Bw w X,⟨(),⟨.cons rfl (.cons (by rw [hL];rfl) .nil),rfl⟩,by rw [hL];exact hnew w _,(zba w _)⟩,?_⟩;rintro _ X ⟨f0,hbX⟩;refine⟨Nat,fun F=>⟨[(2,At0 L),(3,At0 F)],[]⟩,fun F Z=>RelH Z F (frM x)/\RelH Z L zax/\Bw w Z,?_,?_⟩
 ·have dX:Bw X X.drew:=(Below.refl _ _).drew;have fX:=hdr (zab hbX fx);have hba:∀ (A:World) (o:Obj),Bw A (A.alloc o):=fun A o=>(zba _ _);have put:∀ (W:World) (b3:Nat),Bw X W->RelH W b3 zax->X.heap.size<=b3->∀ {K:World->Prop},(∀ V,(RelH V b3 (frM x)/\RelH V L zax/\Bw w V)->K V) ->
    SatR ((storeVar 40 ⟨b3,0,none⟩ (.agg (relC (frM x)).toArray)).run Tryz.prog W) fun _ w'=>K w':=by
   intro W b3 hW f3 g3 K k;refine zas (v := .agg (relC (frM x)).toArray) k40 f3 (zae _) (zae _) (zaD _) ?_;have hL2:=hlt f0;exact k _ ⟨zan f3,(zap (by omega)).trans (zab hW f0),zaj ((zst hbX hW)) (by have:=hbX.size;omega) _⟩
  refine DrawE.treeQ [14] (.op 0 (.op 1 (.op 2 (.op 3 (.op 5 (.op 6 (.op 7 (.op 8 (.alt (.op 13 (.op 4 (.op 9 (.op 10 (.op 11 (.op 12 (.op 14 (.op 15 (.nil))))))))) (.op 4 (.alt (.op 13 (.op 9 (.op 10 (.op 11 (.op 12 (.op 14 (.op 15 (.nil)))))))) (.op 9 (.op 10 (.op 11 (.op 12 (.op 13 (.op 14 (.op 15 (.nil))))))))))))))))))) (by kernel_rfl) ?_;refine⟨relC x.rf,zae _,zbU fX (i:=1) (by decide) rfl,hlt fX,?_⟩;refine⟨relC x.co,zae _,zbU fX (i:=2) (by decide) rfl,hlt fX,?_⟩;refine And.intro ?_ ?_
  ·refine⟨hba _ _,?_⟩;have b1:=dX.alloc (Nat.le_refl _) (.cells (relC zax).toArray 40);refine cmo (zi0 hv.rf (hT.below ((zst hbX b1)))) ?_;rintro e Y ⟨rfl,hbY,_⟩;refine⟨hbY,?_⟩;have b2:=zst b1 hbY;refine cmo (znK wb hv.co (hT.below ((zst hbX b2)))) ?_;rintro e Z ⟨rfl,hbZ⟩;refine⟨hbZ,?_⟩;refine put Z X.heap.size ((zst b2 hbZ)) (zab hbZ (zab hbY (hnew X.drew _))) (Nat.le_refl _) ?_;exact fun V hV=>⟨X.heap.size,(cvE rfl rfl),hV⟩
  refine cmo (zi0 hv.rf (hT.below ((zst hbX dX)))) ?_;rintro e Y ⟨rfl,hbY,_⟩;refine⟨hbY,?_⟩;have b1:=zst dX hbY;refine And.intro ?_ ?_
  ·refine⟨hba _ _,?_⟩;have b2:=b1.alloc b1.size (.cells (relC zax).toArray 40);refine cmo (znK wb hv.co (hT.below ((zst hbX b2)))) ?_;rintro e Z ⟨rfl,hbZ⟩;refine⟨hbZ,?_⟩;refine put Z Y.heap.size ((zst b2 hbZ)) (zab hbZ (hnew Y _)) b1.size ?_;exact fun V hV=>⟨Y.heap.size,(cvE rfl rfl),hV⟩
  ·refine cmo (znK wb hv.co (hT.below ((zst hbX b1)))) ?_;rintro e Z ⟨rfl,hbZ⟩;refine⟨hbZ,?_⟩;have b2:=zst b1 hbZ;refine⟨hba _ _,?_⟩;refine put _ Z.heap.size (b2.alloc b2.size _) (hnew Z _) b2.size ?_;exact fun V hV=>⟨Z.heap.size,(cvE rfl rfl),hV⟩
 rintro F Z ⟨f1,f0,hbZ⟩;refine⟨relC (frM x),zae _,zaa f1,hlt f1,?_⟩;refine zas (v := .agg (relC (frM x)).toArray) k40 f0 (zae _) (zae _) (zaD _) ?_;exact⟨relC (frM x),zae _,zaa (zan f0),rfl,zaj hbZ (by omega) _⟩
end
structure RelOk (n:Nat) (r:RelD):Prop where
 n:r.n=n
 ok:okR r=true
 w:WrdR r.to
section
variable {n:Nat} {r a b:RelD}
theorem RelOk.le (h:RelOk n r):n<=48:=by
 have:=(zbx h.ok).2.1;have:=h.n;omega
theorem RelOk.bit (h:RelOk n r) {i j:Nat} (hi:i<48) (hb:hasM r i j=true):i<n/\j<n:=by
 have:=zjf h.ok h.w hi hb;have:=h.n;omega
theorem zrO (hn:r.n=n) (h48:n<=48) (h:∀ i j,i<48->hasM r i j=true->i<n/\j<n):okR r=true:=by
 unfold okR;rw [bAT,bAT,dE,dE,List.all_eq_true];refine⟨by omega,by omega,fun i hi=>?_⟩;have hi:=List.mem_range.1 hi;unfold zeh;rw [bAT,Bool.or_eq_true,dE,dE,dE];refine⟨?_,?_⟩
 ·rw [zkp,zgt];apply Nat.eq_of_testBit_eq;intro j;rw [Nat.zero_testBit];by_cases hj:j<64
  ·rw [zga (zb9 _) hj,zhX (by omega) (by omega) hj]
   cases hb:(r.to i).testBit j with
   | false=>rfl
   | true =>
    have:=(h i j hi hb).2;rw [decide_eq_true (by omega)];rfl
  ·have:=Nat.testBit_lt_two_pow (nL (Nat.lt_of_le_of_lt (show zco (r.to i) (allN r.n)<=_ from Nat.and_le_right) (show 18446744073709551615-allN r.n<2^64 by omega)) (Nat.pow_le_pow_right (show 0<2 by decide) (show 64<=j by omega)));exact this
 ·by_cases hin:i<n
  ·exact .inl (by omega)
  ·refine .inr (Nat.eq_of_testBit_eq fun j=>?_);rw [Nat.zero_testBit]
   cases hb:(r.to i).testBit j with
   | false=>rfl
   | true=>exact absurd (h i j hi hb).1 hin
theorem RelOk.of (hn:r.n=n) (h48:n<=48) (h:∀ i j,i<48->hasM r i j=true->i<n/\j<n) (hw:WrdR r.to):RelOk n r:=⟨hn,zrO hn h48 h,hw⟩
theorem zi8 (p:Nat->Bool):∀ k j,(rowP k p).testBit j=(decide (j<k)&&p j)
 | 0,j=>by
  show (0:Nat).testBit j=_;simp
 | k+1,j=>by
  rw [zet]
  split
  ·rename_i h;rw [Nat.testBit_or,zi8 p k j,zms];by_cases e:j=k
   ·subst e;simp [h]
   ·rw [decide_eq_false e,Bool.or_false];congr 1;exact decide_eq_decide.2 (by omega)
  ·rename_i h;rw [zi8 p k j];by_cases e:j=k
   ·subst e;have:p j=false:=(by simpa using h);rw [this,Bool.and_false,Bool.and_false]
   ·congr 1;exact decide_eq_decide.2 (by omega)
theorem ziW {f:Nat->Nat} {i j:Nat}:hasM (zb7 n f) i j=(decide (i<n)&&(f i).testBit j):=by
 unfold hasM zb7;dsimp only
 split
 ·rename_i h;rw [decide_eq_true h];rfl
 ·rename_i h;rw [decide_eq_false h,Nat.zero_testBit];rfl
theorem zoq {p:Nat->Nat->Bool} {i j:Nat}:hasM (zd4 n p) i j=(decide (i<n)&&(decide (j<n)&&p i j)):=by
 unfold zd4;rw [ziW,zi8]
theorem RelOk.pick (h:n<=48) (p:Nat->Nat->Bool):RelOk n (zd4 n p):=by
 refine .of rfl h (fun i j _ hb=>?_) (zfu (by omega));rw [zoq] at hb;simp only [bAT,dE] at hb;exact⟨hb.1,hb.2.1⟩
theorem zq0 {f:Nat->Nat} (ha:RelOk n a) (hb:RelOk n b):comb a b f=(zb7 n f,0):=by
 unfold comb;have e:a.n.toNat=n:=by have:=ha.n;omega
 rw [decide_eq_true (ha.n.trans hb.n.symm),ha.ok,hb.ok,if_pos (show (true&&(true&&true))=true from rfl),e]
theorem RelOk.comb {f:Nat->Nat} (ha:RelOk n a) (hb:RelOk n b) (hf:∀ i j,i<n->(f i).testBit j=true->j<n):RelOk n (comb a b f).1:=by
 rw [zq0 ha hb];have h48:=ha.le;have hbit:∀ i j,hasM (zb7 n f) i j=true->i<n/\j<n:=fun i j h=>by
  rw [ziW,bAT,dE] at h;exact⟨h.1,hf i j h.1 h.2⟩
 refine .of rfl h48 (fun i j _ h=>hbit i j h) fun i hi=>?_;apply Nat.lt_of_not_le;intro hge;obtain⟨j,hj1,hj2⟩:=Nat.exists_ge_and_testBit_of_ge_two_pow hge;have:=(hbit i j hj2).2;omega
theorem ziN {to:Nat->Nat} {j:Nat}:∀ (l:List Nat) (t:Nat),(l.foldl (fun t a=>t|||to a) t).testBit j=(t.testBit j||l.any fun a=>(to a).testBit j)
 | [],t=>by simp
 | a::l,t=>by rw [List.foldl_cons,ziN l,Nat.testBit_or,List.any_cons,Bool.or_assoc]
theorem RelOk.then (ha:RelOk n a) (hb:RelOk n b):RelOk n (zh3 a b).1:=ha.comb hb fun i j hi h=>by
 have h48:=ha.le;unfold zff at h;rw [ziN,Nat.zero_testBit,Bool.false_or,List.any_eq_true] at h;obtain⟨k,hk,h⟩:=h;have:=(ha.bit (by omega) (zhz.1 hk).2).2;exact (hb.bit (by omega) h).2
end
structure WX (x:ExD):Prop where
 po:WrdR x.po.to
 rf:WrdR x.rf.to
 co:WrdR x.co.to
 dt:WrdR x.dt.to
 ct:WrdR x.ct.to
 rm:WrdR x.rm.to
structure XOk (x:ExD):Prop where
 n:x.ev.length<=48
 po:RelOk x.ev.length x.po
 rf:RelOk x.ev.length x.rf
 co:RelOk x.ev.length x.co
 dt:RelOk x.ev.length x.dt
 ct:RelOk x.ev.length x.ct
 rm:RelOk x.ev.length x.rm
 ev:zbP x.ev (zcH x.ev)=true
 poE:zeW x.po (poR x.ev)=true
 rfR:zdD x=true
 coR:zdQ x (zcH x.ev)=true
 dep:zcW x=true
theorem zik {X:World} {L:Nat} {r:RelD} (h:RelH X L r):∀ i,i<48->X.cell? ⟨L,0+1+i*1,none⟩=some (s64 (r.to i)):=by
 have hR:RelAt X L 0 40 [] [] r:=⟨rfl,by simpa using h⟩;exact fun i hi=>hR.cell hi
section
variable {b c:Nat} {x:ExD} {q:Option Addr} {w:World}
theorem zr4 {r:RelD} {a d R B:Nat} (fR:RelH w R r) (hr:WrdR r.to) (fB:w.heap[B]?=some (.cells #[At0 b] 140 (0,0))) (fx:ExH w b x q c) (hv:ExV w x q) (ha:a<x.ev.length) (hd:d<x.ev.length) :
  CB 210 #[i64 (a:Nat),i64 (d:Nat),At0 R,At0 B] w (.bool (hasM r a d && !decide ((evA x a).th=(evA x d).th))):=by
 refine cofE 29 [i64 (a:Nat),i64 (d:Nat),At0 R,At0 B] Tryz.func210 ?_;have hn:=hv.n;obtain⟨bq,oq,hqe,hb,hat⟩:=zgV hv.ev ha;obtain⟨bq2,oq2,hqe2,hb2,hat2⟩:=zgV hv.ev hd;rw [hqe] at hqe2;simp only [Option.some.injEq,Addr.mk.injEq,and_true] at hqe2;rw [<- hqe2.1,<- hqe2.2] at hat2;subst hqe;have dw:Bw w w.drew:=(Below.refl _ _).drew;refine DrawE.ord [] [0,1,2,3,4,5,6,7,8,9,10,11,12,13,14,15,16,17,18,19,20,21,22] (by kernel_rfl) ?_;refine cmo (ziO (zik (hdr fR)) hr (by omega) (by omega)) ?_;rintro e _ ⟨rfl,rfl⟩;refine⟨Below.refl _ _,?_⟩;refine biE (fun h1=>?_) fun h1=>?_
 ·have h1:hasM r a d=true:=h1;refine⟨At0 b,zac (zaa (hdr fB)) (i:=0) rfl,?_⟩;refine⟨_,zcI (zaa (hdr fx)),?_⟩;refine⟨a,rfl,ha,?_⟩;refine⟨i64 (evA x a).th,by have:=zac (zar dw hat) (i:=0) (v:=i64 (evA x a).th) rfl;exact this,?_⟩;refine⟨At0 b,zac (zaa (hdr fB)) (i:=0) rfl,?_⟩;refine⟨_,zcI (zaa (hdr fx)),?_⟩;refine⟨d,rfl,hd,?_⟩;refine⟨i64 (evA x d).th,by have:=zac (zar dw hat2) (i:=0) (v:=i64 (evA x d).th) rfl;exact this,?_⟩;exact⟨rb (by rw [h1,Bool.true_and]),dw⟩
 ·have h1:hasM r a d=false:=h1;exact⟨rb (by rw [h1,Bool.false_and]),dw⟩
theorem ztE {r:RelD} (fx:ExH w b x q c) (hv:ExV w x q) (hr:WrdR r.to) (hn:r.n=x.ev.length) :
  CB 157 #[At0 b,.agg (relC r).toArray] w (.agg (relC (extM x r)).toArray):=by
 refine cofM 9 [At0 b,.agg (relC r).toArray] (.c .p (.c .p .p)) Tryz.func157 ?_;obtain⟨L,hL⟩:=nm (w.heap.size);have h19:=hv.n;refine⟨Unit,fun _=>⟨[(2,At0 L),(3,At0 (L+1)),(4,At0 (L+2))],[]⟩,fun _ X=>X.heap[L]?=some (.cells #[At0 b] 140 (0,0))/\RelH X (L+1) r/\RelH X (L+2) zax/\Bw w X,?_,?_⟩
 ·have s1:=wz w (.cells #[At0 b] 140);have s2:=wz (w.alloc (.cells #[At0 b] 140)) (.cells (relC r).toArray 40);have b1:Bw w (w.alloc (.cells #[At0 b] 140)):=zba w _;have b2:=b1.alloc b1.size (.cells (relC r).toArray 40);have h1:=hnew w (.cells #[At0 b] 140);have h2:=hnew (w.alloc (.cells #[At0 b] 140)) (.cells (relC r).toArray 40);have h3:=hnew ((w.alloc (.cells #[At0 b] 140)).alloc (.cells (relC r).toArray 40)) (.cells (relC zax).toArray 40);rw [s1] at h2 s2;rw [s2] at h3;refine⟨(),⟨.cons (by rw [hL];rfl) (.cons (by rw [hL,<- s1];rfl) (.cons (by rw [hL,<- s2];rfl) .nil)),rfl⟩,by rw [hL];exact hold _ (hold _ h1),by rw [hL];exact hold _ h2,by rw [hL];exact h3,b2.alloc b2.size _⟩
 rintro _ X ⟨fB,fR,f0,hbX⟩;have fX:=zab hbX fx;have hvX:=hv.below hbX;refine⟨Unit,fun _=>⟨[(4,At0 (L+2))],[]⟩,fun _ Y=>RelH Y (L+2) (extM x r)/\Bw w Y,?_,?_⟩
 ·refine⟨i64 r.n,by have:=zac (zaa fR) (i:=0) (v:=i64 r.n) rfl;exact this,?_⟩;have en:extM x r=zd4 x.ev.length fun a d=>hasM r a d && !decide ((evA x a).th=(evA x d).th):=by
   unfold extM;rw [hn];rfl
  rw [hn];refine cmo (zmy (n:=x.ev.length) (caps := #[At0 (L+1),At0 L]) (g:=210) (p:=fun a d=>hasM r a d && !decide ((evA x a).th=(evA x d).th)) (by omega) (by kernel_rfl) fun a d Z ha hd hb=>zr4 (zab hb fR) hr (zab hb fB) (zab hb fX) (hvX.below hb) ha hd) ?_;rintro e Y ⟨rfl,hbY⟩;rw [<- en];have f0:=zab hbY f0;refine zas (v := .agg (relC (extM x r)).toArray) k40 f0 (zae _) (zae _) (zaD _) ?_;exact⟨(),(cvE rfl rfl),zan f0,zaj ((zst hbX hbY)) (by omega) _⟩
 rintro _ Y ⟨f0,hbY⟩;exact⟨relC (extM x r),zae _,zaa f0,rfl,hbY⟩
end
section
variable {b c:Nat} {x:ExD} {q:Option Addr} {w:World}
theorem zr0 {r:RelD} {a d R:Nat} (fR:RelH w R r) (hr:WrdR r.to) (fx:ExH w b x q c) (hv:ExV w x q) (ha:a<x.ev.length) (hd:d<x.ev.length) :
  CB 189 #[i64 (a:Nat),i64 (d:Nat),At0 R,At0 b] w (.bool (hasM r a d&&decide ((evA x a).th=(evA x d).th))):=by
 refine cofE 25 [i64 (a:Nat),i64 (d:Nat),At0 R,At0 b] Tryz.func189 ?_;have hn:=hv.n;obtain⟨bq,oq,hqe,hb,hat⟩:=zgV hv.ev ha;obtain⟨bq2,oq2,hqe2,hb2,hat2⟩:=zgV hv.ev hd;rw [hqe] at hqe2;simp only [Option.some.injEq,Addr.mk.injEq,and_true] at hqe2;rw [<- hqe2.1,<- hqe2.2] at hat2;subst hqe;have dw:Bw w w.drew:=(Below.refl _ _).drew;refine DrawE.ord [] [0,1,2,3,4,5,6,7,8,9,10,11,12,13,14,15,16,17,18] (by kernel_rfl) ?_;refine cmo (ziO (zik (hdr fR)) hr (by omega) (by omega)) ?_;rintro e _ ⟨rfl,rfl⟩;refine⟨Below.refl _ _,?_⟩;refine biE (fun h1=>?_) fun h1=>?_
 ·have h1:hasM r a d=true:=h1;refine⟨_,zcI (zaa (hdr fx)),?_⟩;refine⟨a,rfl,ha,?_⟩;refine⟨i64 (evA x a).th,by have:=zac (zar dw hat) (i:=0) (v:=i64 (evA x a).th) rfl;exact this,?_⟩;refine⟨_,zcI (zaa (hdr fx)),?_⟩;refine⟨d,rfl,hd,?_⟩;refine⟨i64 (evA x d).th,by have:=zac (zar dw hat2) (i:=0) (v:=i64 (evA x d).th) rfl;exact this,?_⟩;exact⟨rb (by rw [h1,Bool.true_and]),dw⟩
 ·have h1:hasM r a d=false:=h1;exact⟨rb (by rw [h1,Bool.false_and]),dw⟩
theorem zrW {a d:Nat} (fx:ExH w b x q c) (hv:ExV w x q) (ha:a<x.ev.length) (hd:d<x.ev.length) :
  CB 187 #[i64 (a:Nat),i64 (d:Nat),At0 b] w (.bool (zi5 x a d)):=by
 refine cofE 9 [i64 (a:Nat),i64 (d:Nat),At0 b] Tryz.func187 ?_;refine cmo (zrz (zaa fx) hv.ev ha hd) ?_;rintro e X ⟨rfl,hb⟩;exact⟨rfl,hb⟩
end
section
variable {b c:Nat} {x:ExD} {q:Option Addr} {w:World}
def ze7 (x:ExD) (r:RelD):Bool:=okR r&&(decide (r.n=x.ev.length)&&zbF x)
theorem notB {p:Bool} (h:(!p)=true):p=false:=by simpa using h
theorem notF {p:Bool} (h:(!p)=false):p=true:=by simpa using h
theorem zdG {X:World} {L:Nat} {r r0:RelD} (f0:RelH X L r0) (hL:w.heap.size<=L) (hbX:Bw w X) {K:World->Prop} (k:∀ Y,RelH Y L r->Bw w Y->K Y) :
  SatR ((storeVar 40 ⟨L,0,none⟩ (.agg (relC r).toArray)).run Tryz.prog X) fun _ w'=>K w' :=
 zas (v := .agg (relC r).toArray) k40 f0 (zae _) (zae _) (zaD _) (k _ (zan f0) (zaj hbX hL _))
def frX (x:ExD):RelD:=if zbF x=true then frM x else zax
def locX (x:ExD):RelD:=if zbF x=true then locM x else zax
def extX (x:ExD) (r:RelD):RelD:=if ze7 x r=true then extM x r else zax
def intX (x:ExD) (r:RelD):RelD:=if ze7 x r=true then intM x r else zax
theorem ze6 {r:RelD} (h:ze7 x r=true):okR r=true/\r.n=x.ev.length/\zbF x=true:=by
 unfold ze7 at h;rw [bAT,bAT,dE] at h;exact h
theorem zdA (w:World) (x:ExD) (q:Option Addr) (c:Nat) (r:RelD) (T:TypeId) : 
  ExH ((w.alloc (.cells (exC x q c).toArray 47)).alloc (.cells (relC r).toArray T)) w.heap.size x q c/\((w.alloc (.cells (exC x q c).toArray 47)).alloc (.cells (relC r).toArray T)).heap[w.heap.size+1]?=some (.cells (relC r).toArray T (0,0)) /\
   ((w.alloc (.cells (exC x q c).toArray 47)).alloc (.cells (relC r).toArray T)).heap.size=w.heap.size+2/\Bw w ((w.alloc (.cells (exC x q c).toArray 47)).alloc (.cells (relC r).toArray T)):=by
 have s1:=wz w (.cells (exC x q c).toArray 47);have h2:=hnew (w.alloc (.cells (exC x q c).toArray 47)) (.cells (relC r).toArray T);have s2:=wz (w.alloc (.cells (exC x q c).toArray 47)) (.cells (relC r).toArray T);rw [s1] at h2 s2;have b1:Bw w (w.alloc (.cells (exC x q c).toArray 47)):=zba w _;exact⟨hold _ (hnew w _),h2,s2,b1.alloc b1.size _⟩
theorem zpp {r:RelD} (hv:ExV w x q) (hr:WrdR r.to) (hT:Tz64M w):CB 188 #[.agg (exC x q c).toArray,.agg (relC r).toArray] w (.bool (ze7 x r)):=by
 refine cofM 19 [.agg (exC x q c).toArray,.agg (relC r).toArray] (.c .p .p) Tryz.func188 ?_;obtain⟨L,hL⟩:=nm (w.heap.size);refine⟨Unit,fun _=>⟨[(2,At0 L),(3,At0 (L+1))],[]⟩,fun _ X=>ExH X L x q c/\RelH X (L+1) r/\Bw w X,?_,?_⟩
 ·obtain⟨h1,h2,h3,h4⟩:=zdA w x q c r 40;have s1:=wz w (.cells (exC x q c).toArray 47);exact⟨(),⟨.cons (by rw [hL];rfl) (.cons (by rw [hL,<- s1];rfl) .nil),rfl⟩,by rw [hL];exact h1,by rw [hL];exact h2,h4⟩
 rintro _ X ⟨fX,fR,hbX⟩;refine⟨relC r,zae _,zaa fR,hlt fR,?_⟩;refine cmo (zbp hr) ?_;rintro e Y ⟨rfl,hbY⟩;have bY:=zst hbX hbY;refine biE (fun h1=>?_) fun h1=>?_
 ·have h1:okR r=true:=h1;refine⟨i64 r.n,by have:=zac (zaa (zab hbY fR)) (i:=0) (v:=i64 r.n) rfl;exact this,?_⟩;refine⟨_,zcI (zaa (zab hbY fX)),?_⟩;refine biE (fun h2=>?_) fun h2=>?_
  ·have h2:r.n=(x.ev.length:Int):=dT h2;refine⟨exC x q c,zaB _ _ _,zaa (zab hbY fX),hlt (zab hbY fX),?_⟩;refine cmo (zfE (hv.below bY) (hT.below bY)) ?_;rintro e Z ⟨rfl,hbZ⟩;exact⟨rb (by unfold ze7;rw [h1,decide_eq_true h2];rfl),(zst bY hbZ)⟩
  ·have h2:¬ r.n=(x.ev.length:Int):=dF h2;exact⟨rb (by unfold ze7;rw [h1,decide_eq_false h2];rfl),bY⟩
 ·have h1:okR r=false:=h1;refine brF ?_;exact⟨rb (by unfold ze7;rw [h1];rfl),bY⟩
theorem ztP (hv:ExV w x q) (hT:Tz64M w):CB 117 #[.agg (exC x q c).toArray] w (.agg (relC (frX x)).toArray):=by
 refine cofM 8 [.agg (exC x q c).toArray] (.c .p .p) Tryz.func117 ?_;obtain⟨L,hL⟩:=nm (w.heap.size);have hn:=hv.n;refine⟨Unit,fun _=>⟨[(1,At0 L),(2,At0 (L+1))],[]⟩,fun _ X=>ExH X L x q c/\RelH X (L+1) zax/\Bw w X,?_,?_⟩
 ·obtain⟨h1,h2,h3,h4⟩:=zdA w x q c zax 40;have s1:=wz w (.cells (exC x q c).toArray 47);exact⟨(),⟨.cons (by rw [hL];rfl) (.cons (by rw [hL,<- s1];rfl) .nil),rfl⟩,by rw [hL];exact h1,by rw [hL];exact h2,h4⟩
 rintro _ X ⟨fX,f0,hbX⟩;have zero:frX x=zax->∀ {Y:World},Bw X Y->SatR ((storeVar 40 ⟨L+1,0,none⟩ (.agg (relC zax).toArray)).run Tryz.prog Y) fun _ w'=>∃ cells,cells.length=49/\zav w' ⟨L+1,0,none⟩ cells/\Ending.returned (.agg cells.toArray) = .returned (.agg (relC (frX x)).toArray)/\Bw w w':=fun h0 {Y} hb=>by
  rw [h0];exact zdG (zab hb f0) (by omega) ((zst hbX hb)) fun Z fZ bZ=>⟨relC zax,zae _,zaa fZ,rfl,bZ⟩
 refine⟨exC x q c,zaB _ _ _,zaa fX,hlt fX,?_⟩;refine cmo (zfE (hv.below hbX) (hT.below hbX)) ?_;rintro e Y ⟨rfl,hbY⟩;have bY:=zst hbX hbY;have fY:=zab hbY fX;refine biE (fun h2=>?_) fun h2=>?_
 ·have h2:zbF x=false:=notB h2;refine⟨relC zax,by kernel_rfl,?_⟩;exact zero (if_neg fun h=>by rw [h2] at h;cases h) hbY
 ·have h2:zbF x=true:=notF h2;have e0:frX x=frM x:=if_pos h2;rw [e0];refine cmo (fr_c fY (hv.below bY) (hT.below bY)) ?_;rintro e Z ⟨rfl,hbZ⟩;exact zdG (zab hbZ (zab hbY f0)) (by omega) ((zst bY hbZ)) fun V fV bV=>⟨relC (frM x),zae _,zaa fV,rfl,bV⟩
theorem zsF (hv:ExV w x q) (hT:Tz64M w):CB 118 #[.agg (exC x q c).toArray] w (.agg (relC (locX x)).toArray):=by
 refine cofM 12 [.agg (exC x q c).toArray] (.c .p .p) Tryz.func118 ?_;obtain⟨L,hL⟩:=nm (w.heap.size);have hn:=hv.n;refine⟨Unit,fun _=>⟨[(1,At0 L),(2,At0 (L+1))],[]⟩,fun _ X=>ExH X L x q c/\RelH X (L+1) zax/\Bw w X,?_,?_⟩
 ·obtain⟨h1,h2,h3,h4⟩:=zdA w x q c zax 40;have s1:=wz w (.cells (exC x q c).toArray 47);exact⟨(),⟨.cons (by rw [hL];rfl) (.cons (by rw [hL,<- s1];rfl) .nil),rfl⟩,by rw [hL];exact h1,by rw [hL];exact h2,h4⟩
 rintro _ X ⟨fX,f0,hbX⟩;have zero:locX x=zax->∀ {Y:World},Bw X Y->SatR ((storeVar 40 ⟨L+1,0,none⟩ (.agg (relC zax).toArray)).run Tryz.prog Y) fun _ w'=>∃ cells,cells.length=49/\zav w' ⟨L+1,0,none⟩ cells/\Ending.returned (.agg cells.toArray) = .returned (.agg (relC (locX x)).toArray)/\Bw w w':=fun h0 {Y} hb=>by
  rw [h0];exact zdG (zab hb f0) (by omega) ((zst hbX hb)) fun Z fZ bZ=>⟨relC zax,zae _,zaa fZ,rfl,bZ⟩
 refine⟨exC x q c,zaB _ _ _,zaa fX,hlt fX,?_⟩;refine cmo (zfE (hv.below hbX) (hT.below hbX)) ?_;rintro e Y ⟨rfl,hbY⟩;have bY:=zst hbX hbY;have fY:=zab hbY fX;refine biE (fun h2=>?_) fun h2=>?_
 ·have h2:zbF x=false:=notB h2;refine⟨relC zax,by kernel_rfl,?_⟩;exact zero (if_neg fun h=>by rw [h2] at h;cases h) hbY
 ·have h2:zbF x=true:=notF h2;have e0:locX x=locM x:=if_pos h2;rw [e0];refine⟨_,zcI (zaa fY),?_⟩;refine cmo (zmy (n:=x.ev.length) (caps := #[At0 L]) (g:=187) (p:=zi5 x) (by omega) (by kernel_rfl) fun a d Z ha hd hb=>zrW (zab hb fY) ((hv.below bY).below hb) ha hd) ?_;rintro e Z ⟨rfl,hbZ⟩;exact zdG (zab hbZ (zab hbY f0)) (by omega) ((zst bY hbZ)) fun V fV bV=>⟨relC (locM x),zae _,zaa fV,rfl,bV⟩
theorem zsM {r:RelD} (hv:ExV w x q) (hr:WrdR r.to) (hT:Tz64M w):CB 119 #[.agg (exC x q c).toArray,.agg (relC r).toArray] w (.agg (relC (extX x r)).toArray):=by
 refine cofM 12 [.agg (exC x q c).toArray,.agg (relC r).toArray] (.c .p .p) Tryz.func119 ?_;obtain⟨L,hL⟩:=nm (w.heap.size);have hn:=hv.n;refine⟨Unit,fun _=>⟨[(2,At0 L),(3,At0 (L+1)),(4,At0 (L+2))],[]⟩,fun _ X=>ExH X L x q c/\RelH X (L+1) r/\RelH X (L+2) zax/\Bw w X,?_,?_⟩
 ·obtain⟨h1,h2,h3,h4⟩:=zdA w x q c r 40;have s1:=wz w (.cells (exC x q c).toArray 47);obtain⟨U,hU⟩:=nm ((w.alloc (.cells (exC x q c).toArray 47)).alloc (.cells (relC r).toArray 40));rw [<- hU] at h1 h2 h3 h4;have f3:=hnew U (.cells (relC zax).toArray 40);rw [h3] at f3;subst hU;exact⟨(),⟨.cons (by rw [hL];rfl) (.cons (by rw [hL,<- s1];rfl) (.cons (by rw [hL,<- h3];rfl) .nil)),rfl⟩,by rw [hL];exact hold _ h1,by rw [hL];exact hold _ h2,by rw [hL];exact f3,h4.alloc h4.size _⟩
 rintro _ X ⟨fX,fR,f0,hbX⟩;have zero:extX x r=zax->∀ {Y:World},Bw X Y->SatR ((storeVar 40 ⟨L+2,0,none⟩ (.agg (relC zax).toArray)).run Tryz.prog Y) fun _ w'=>∃ cells,cells.length=49/\zav w' ⟨L+2,0,none⟩ cells/\Ending.returned (.agg cells.toArray) = .returned (.agg (relC (extX x r)).toArray)/\Bw w w':=fun h0 {Y} hb=>by
  rw [h0];exact zdG (zab hb f0) (by omega) ((zst hbX hb)) fun Z fZ bZ=>⟨relC zax,zae _,zaa fZ,rfl,bZ⟩
 refine⟨exC x q c,zaB _ _ _,zaa fX,hlt fX,?_⟩;refine⟨relC r,zae _,zaa fR,hlt fR,?_⟩;refine cmo (zpp (hv.below hbX) hr (hT.below hbX)) ?_;rintro e Y ⟨rfl,hbY⟩;have bY:=zst hbX hbY;have fY:=zab hbY fX;refine biE (fun h2=>?_) fun h2=>?_
 ·have h2:ze7 x r=false:=notB h2;refine⟨relC zax,by kernel_rfl,?_⟩;exact zero (if_neg fun h=>by rw [h2] at h;cases h) hbY
 ·have h2:ze7 x r=true:=notF h2;have h3:=ze6 h2;have e0:extX x r=extM x r:=if_pos h2;rw [e0];refine⟨relC r,zae _,zaa (zab hbY fR),hlt (zab hbY fR),?_⟩;refine cmo (ztE fY (hv.below bY) hr h3.2.1) ?_;rintro e Z ⟨rfl,hbZ⟩;exact zdG (zab hbZ (zab hbY f0)) (by omega) ((zst bY hbZ)) fun V fV bV=>⟨relC (extM x r),zae _,zaa fV,rfl,bV⟩
theorem zsK {r:RelD} (hv:ExV w x q) (hr:WrdR r.to) (hT:Tz64M w):CB 120 #[.agg (exC x q c).toArray,.agg (relC r).toArray] w (.agg (relC (intX x r)).toArray):=by
 refine cofM 14 [.agg (exC x q c).toArray,.agg (relC r).toArray] (.c .p .p) Tryz.func120 ?_;obtain⟨L,hL⟩:=nm (w.heap.size);have hn:=hv.n;refine⟨Unit,fun _=>⟨[(2,At0 L),(3,At0 (L+1)),(4,At0 (L+2))],[]⟩,fun _ X=>ExH X L x q c/\RelH X (L+1) r/\RelH X (L+2) zax/\Bw w X,?_,?_⟩
 ·obtain⟨h1,h2,h3,h4⟩:=zdA w x q c r 40;have s1:=wz w (.cells (exC x q c).toArray 47);obtain⟨U,hU⟩:=nm ((w.alloc (.cells (exC x q c).toArray 47)).alloc (.cells (relC r).toArray 40));rw [<- hU] at h1 h2 h3 h4;have f3:=hnew U (.cells (relC zax).toArray 40);rw [h3] at f3;subst hU;exact⟨(),⟨.cons (by rw [hL];rfl) (.cons (by rw [hL,<- s1];rfl) (.cons (by rw [hL,<- h3];rfl) .nil)),rfl⟩,by rw [hL];exact hold _ h1,by rw [hL];exact hold _ h2,by rw [hL];exact f3,h4.alloc h4.size _⟩
 rintro _ X ⟨fX,fR,f0,hbX⟩;have zero:intX x r=zax->∀ {Y:World},Bw X Y->SatR ((storeVar 40 ⟨L+2,0,none⟩ (.agg (relC zax).toArray)).run Tryz.prog Y) fun _ w'=>∃ cells,cells.length=49/\zav w' ⟨L+2,0,none⟩ cells/\Ending.returned (.agg cells.toArray) = .returned (.agg (relC (intX x r)).toArray)/\Bw w w':=fun h0 {Y} hb=>by
  rw [h0];exact zdG (zab hb f0) (by omega) ((zst hbX hb)) fun Z fZ bZ=>⟨relC zax,zae _,zaa fZ,rfl,bZ⟩
 refine⟨exC x q c,zaB _ _ _,zaa fX,hlt fX,?_⟩;refine⟨relC r,zae _,zaa fR,hlt fR,?_⟩;refine cmo (zpp (hv.below hbX) hr (hT.below hbX)) ?_;rintro e Y ⟨rfl,hbY⟩;have bY:=zst hbX hbY;have fY:=zab hbY fX;refine biE (fun h2=>?_) fun h2=>?_
 ·have h2:ze7 x r=false:=notB h2;refine⟨relC zax,by kernel_rfl,?_⟩;exact zero (if_neg fun h=>by rw [h2] at h;cases h) hbY
 ·have h2:ze7 x r=true:=notF h2;have h3:=ze6 h2;have e0:intX x r=intM x r:=if_pos h2;rw [e0];refine⟨i64 r.n,by have:=zac (zaa (zab hbY fR)) (i:=0) (v:=i64 r.n) rfl;exact this,?_⟩;have en:intM x r=zd4 x.ev.length fun a d=>hasM r a d&&decide ((evA x a).th=(evA x d).th):=by
   unfold intM;rw [h3.2.1];rfl
  rw [h3.2.1,en];refine cmo (zmy (n:=x.ev.length) (caps := #[At0 (L+1),At0 L]) (g:=189) (p:=fun a d=>hasM r a d&&decide ((evA x a).th=(evA x d).th)) (by omega) (by kernel_rfl) fun a d Z ha hd hb=>zr0 (zab hb (zab hbY fR)) hr (zab hb fY) ((hv.below bY).below hb) ha hd) ?_;rintro e Z ⟨rfl,hbZ⟩;rw [<- en];exact zdG (zab hbZ (zab hbY f0)) (by omega) ((zst bY hbZ)) fun V fV bV=>⟨relC (intM x r),zae _,zaa fV,rfl,bV⟩
end
def sqR (r:RelD):RelD:=zb7 r.n.toNat fun a=>r.to a|||zff r.to (r.to a)
def eqR (a b:RelD):Bool:=decide (a.n=b.n)&&(List.range 48).all fun i=>decide (a.to i=b.to i)
def zrJ:Nat->RelD->RelD
 | 0,r=>r
 | f+1,r=>if eqR (sqR r) r then r else zrJ f (sqR r)
def zrI (r:RelD):RelD:=if okR r then zrJ 2400 r else zax
def zsZ (r:RelD):RelD:=if okR r then (zpc (zrI r) (idR r.n.toNat (allM r.n))).1 else zax
def irrR (r:RelD):Bool:=okR r&&(List.range r.n.toNat).all fun a => !(r.to a).testBit a
def ztD (e:Ev) (s:Bs):Bool :=
 let rd:=decide (e.k=1);let wr:=decide (e.k=2);let fe:=decide (e.k=3)
 if s=[82] then rd
 else if s=[87] then wr
 else if s=[70] then fe
 else if s=[77] then rd||wr
 else if s=[65] then rd&&(decide (e.m=1)||decide (e.m=3))
 else if s=[76] then wr&&(decide (e.m=2)||decide (e.m=3))
 else if s=[88] then (rd||wr)&&decide (e.m=3)
 else if s=[70,70] then fe&&decide (e.m=3)
 else if s=[70,76] then fe&&decide (e.m=4)
 else if s=[70,83] then fe&&decide (e.m=5)
 else if s=[73] then decide (e.th = -1)
 else false
def setM (x:ExD) (s:Bs):Nat:=orG ((List.range x.ev.length).filter fun i=>match x.ev[i]? with | some e=>ztD e s | none=>false)
def zhk (x:ExD):Bs->RelD:=fun s =>
 let n:=x.ev.length
 let cr:=zgm n (allM n) (allM n)
 if s=[112,111] then x.po else if s=[114,102] then x.rf else if s=[99,111] then x.co else if s=[114,109,119] then x.rm
 else if s=[100,97,116,97] then x.dt else if s=[99,116,114,108] then x.ct else if s=[102,114] then frX x else if s=[108,111,99] then locX x
 else if s=[105,100] then idR n (allM n) else if s=[101,120,116] then extX x cr else if s=[105,110,116] then intX x cr else zax
section
variable (x:ExD) (rels:Bs->RelD)
def un3 (k:UInt8) (a:RelD):RelD:=if k=6 then zbJ a else if k=7 then zrI a else zsZ a
def bin4 (k:UInt8) (a b:RelD):RelD:=if k=2 then (zpc a b).1 else if k=3 then (ztH a b).1 else if k=4 then (zrV a b).1 else if k=5 then (zh3 a b).1 else zax
mutual
def valT:Trm->RelD
 | .mk k nq kids =>
  if k=1 then rels nq
  else if k=9 then idR x.ev.length (setM x nq)
  else if k=6\/k=7\/k=8 then un3 k (valH kids)
  else bin4 k (valH kids) (valS kids)
def valH:List Trm->RelD
 | []=>zax
 | t::_=>valT t
def valS:List Trm->RelD
 | []=>zax
 | _::r=>valH r
end
end
def letR (rels:Bs->RelD) (s:Bs) (r:RelD):Bs->RelD:=fun t=>if t=s then r else rels t
def zgz (x:ExD):(Bs->RelD)->List LineD->Bool×Bs
 | _,[]=>(true,[])
 | g,l::r =>
  let v:=valT x g l.term
  if l.kind=0 then zgz x (letR g l.name v) r
  else if (if l.kind=1 then acyR v else if l.kind=2 then irrR v else ziR v) then zgz x g r
  else (false,l.name)
def zm0 (l:List LineD) (x:ExD):Option (Bool×Bs) :=
 if (zdt l).isSome&&zbF x then some (zgz x (zhk x) l) else none
end Go.Proofs.YtkpkdmipjinoaaaGreatDoor
namespace Go.Vc
open Go.RowKit
section
variable {P:Program} {κ:Type} [DecidableEq κ] {key:κ->Value} {K:TypeId}
theorem zbB {T elem:TypeId} (hK:MapK P K key) (hu:P.underlying T=some (.map K elem)) {w:World} {r:Nat} {f:κ->Option Value} (h:MapF key w r f) (q:κ) (x:Value) :
  ∃ o,(Instr.mapUpdate T (.map (some r)) (key q) x).run P w = .ok () (w.putObj r o)/\MapF key (w.putObj r o) r (fun q'=>if q'=q then some x else f q'):=by
 obtain⟨es,clock,hh,hf,hn,hb,hc⟩:=h;have hg:(getObj r).run P w = .ok (.map (es.map (entry key)).toArray clock) w:=by simp [getObj,Sem.run,hh]
 have hset:∀ o,(setObj r o).run P w = .ok () (w.putObj r o):=fun o=>by simp [setObj,Sem.run,hh,World.putObj]
 have e:asF es q=f q:=hf q;unfold asF at e;simp only [Instr.mapUpdate,Sem.run_bind,run_underlying hu,Result.andThen_ok,hg,hK.check q _ w,zgg hK q es w]
 cases hfl:zdN q es 0 with
 | none =>
  rw [hfl] at e;simp only [Option.map_none] at e;refine⟨.map ((es++[(q,x,clock)]).map (entry key)).toArray (clock+1),?_,?_⟩
  ·have e2:(es.map (entry key)).toArray.push { key:=key q,val:=x,born:=clock }=((es++[(q,x,clock)]).map (entry key)).toArray:=by
    rw [<- Array.toList_inj];simp [entry]
   simp only [e2,hset]
  ·refine⟨es++[(q,x,clock)],clock+1,zcU hh,fun q'=>?_,?_,?_,?_⟩
   ·rw [zg1];by_cases hq:q'=q
    ·subst hq;rw [hf q',<- e];simp
    ·simp [hq,hf q']
   ·rw [List.map_append,List.map_cons,List.map_nil];refine List.nodup_append.2 ⟨hn,by simp,?_⟩;intro a ha b hb';simp only [List.mem_singleton] at hb';subst hb';obtain⟨y,hy,rfl⟩:=List.mem_map.1 ha;exact zgU hfl y hy
   ·rw [List.map_append,List.map_cons,List.map_nil];refine List.nodup_append.2 ⟨hb,by simp,?_⟩;intro a ha b hb';simp only [List.mem_singleton] at hb';subst hb';obtain⟨y,hy,rfl⟩:=List.mem_map.1 ha;exact Nat.ne_of_lt (hc y hy)
   ·intro y hy;rw [List.mem_append] at hy;rcases hy with hy | hy
    ·exact Nat.lt_succ_of_lt (hc y hy)
    ·simp only [List.mem_singleton] at hy;subst hy;exact Nat.lt_succ_self _
 | some p =>
  obtain⟨j,v⟩:=p;obtain⟨b,_,hj⟩:=zgT hfl;rw [Nat.sub_zero] at hj;have hm:(q,v,b)∈es:=List.mem_of_getElem? hj;have hje:(es.map (entry key)).toArray[j]?=some (entry key (q,v,b)):=by simp [hj]
  have only:∀ i (hi:i<es.length),(es[i]).2.2=b->i=j:=fun i hi hbe=>by
   obtain⟨hjl,e2⟩:=List.getElem?_eq_some_iff.1 hj;by_cases hij:i=j
   ·exact hij
   ·exfalso
    have h3:=(List.pairwise_iff_getElem.1 hb);rcases Nat.lt_or_gt_of_ne hij with hlt | hlt
    ·exact h3 i j (by simpa using hi) (by simpa using hjl) hlt (by simp [e2,hbe])
    ·exact h3 j i (by simpa using hjl) (by simpa using hi) hlt (by simp [e2,hbe])
  have hbq:∀ y∈es,y.2.2=b->y.1=q:=fun y hy hbe=>by
   obtain⟨i,hi,e1⟩:=List.getElem_of_mem hy;have:=only i hi (by rw [e1];exact hbe);subst this;obtain⟨_,e2⟩:=List.getElem?_eq_some_iff.1 hj;rw [<- e1,e2]
  have hmod:(es.map (entry key)).toArray.modify j (fun e=>{ e with key:=key q,val:=x })=((es.map fun e=>if e.2.2=b then (e.1,x,e.2.2) else e).map (entry key)).toArray:=by
   apply Array.ext_getElem?;intro i;rw [Array.getElem?_modify];by_cases hil:i<es.length
   ·by_cases hij:j=i
    ·subst hij;obtain⟨_,e2⟩:=List.getElem?_eq_some_iff.1 hj;rw [if_pos rfl,hje];simp [hil,e2,entry]
    ·rw [if_neg hij];have:¬ (es[i]).2.2=b:=fun h=>hij (only i hil h).symm;simp [hil,this]
   ·have h1:(es.map (entry key)).toArray[i]?=none:=(by simp;omega);have h2:((es.map fun e=>if e.2.2=b then (e.1,x,e.2.2) else e).map (entry key)).toArray[i]?=none:=(by simp;omega);rw [h1,h2];split <;> rfl
  refine⟨.map ((es.map fun e=>if e.2.2=b then (e.1,x,e.2.2) else e).map (entry key)).toArray clock,?_,?_⟩
  ·simp only [hje,Option.map_some,Option.getD_some,entry,Instr.keyThatStays,hK.same q,if_true,Sem.run_pure,Result.andThen_ok,Sem.run_bind];have hmod':=hmod;rw [hmod',hset]
  ·refine⟨_,clock,zcU hh,fun q'=>?_,?_,?_,?_⟩
   ·rw [znH x q q' es hn ⟨v,hm⟩ hbq,hf q']
   ·have:(es.map fun e=>if e.2.2=b then (e.1,x,e.2.2) else e).map (·.1)=es.map (·.1):=by
     rw [List.map_map];apply List.map_congr_left;intro e _;simp only [Function.comp_apply];split <;> rfl
    rw [this];exact hn
   ·have:(es.map fun e=>if e.2.2=b then (e.1,x,e.2.2) else e).map (·.2.2)=es.map (·.2.2):=by
     rw [List.map_map];apply List.map_congr_left;intro e _;simp only [Function.comp_apply];split <;> rfl
    rw [this];exact hb
   ·intro e he;obtain⟨y,hy,rfl⟩:=List.mem_map.1 he
    split
    ·exact hc y hy
    ·exact hc y hy
end
end Go.Vc
namespace Go.Proofs.YtkpkdmipjinoaaaGreatDoor
open Go.Vc Go.RowKit
abbrev keyS (s:Bs):Value:=strV s
theorem beqK (a b:ByteArray):(a == b)=true↔a=b:=by
 rw [beq_toListBytes,beq_iff_eq,ByteArray.toList_eq,ByteArray.toList_eq];constructor
 ·intro h;obtain⟨⟨x⟩⟩:=a;obtain⟨⟨y⟩⟩:=b;exact congrArg (fun l:List UInt8=>(⟨⟨l⟩⟩:ByteArray)) h
 ·rintro rfl;rfl
theorem ziL (a:Bs):(bs a == bs a)=true:=(beqK _ _).2 rfl
theorem zmW (a b:Bs):(bs a == bs b)=decide (a=b):=by
 by_cases h:a=b
 ·subst h;rw [ziL,decide_eq_true rfl]
 ·rw [decide_eq_false h];refine Bool.eq_false_iff.2 fun e=>h ?_;exact zsw ((beqK _ _).1 e)
theorem eqSJ (d:Nat) (x y:Bs) (w:World):(Op.equalIn (d+1) 9 (keyS x) (keyS y)).run Tryz.prog w = .ok (decide (x=y)) w:=by
 simp only [Op.equalIn,Sem.run_bind,run_underlying Tryz.underlying9,Result.andThen_ok,Sem.run_pure,strV];rw [zmW]
theorem ztF (e:Bool) (d:Nat) (q:Bs) (w:World):(Instr.checkKey e (d+1) 9 (keyS q)).run Tryz.prog w = .ok () w:=by
 simp only [Instr.checkKey,Sem.run_bind,run_underlying Tryz.underlying9,Result.andThen_ok,Sem.run_pure,strV]
theorem skey:MapK Tryz.prog 9 keyS where
 check:=fun q e w=>ztF e 9999 q w
 eq:=fun q q' w=>eqSJ 9999 q q' w
 same:=fun q=>by simp only [Instr.sameBits,strV];exact ziL q
 desc:=⟨_,Tryz.underlying9,fun q q'=>by
  right;simp only [Instr.sameNow,strV];rw [zmW]⟩
end Go.Proofs.YtkpkdmipjinoaaaGreatDoor
namespace Go.Proofs.YtkpkdmipjinoaaaGreatDoor
open Go.Vc Go.RowKit Go.Sei
def u8n (n:Nat):Value := .int .u8 (n:Nat)
def strL:List Nat:=[0,0,1,2,3,4,0,0,0,0]
def zht:List Int:=[-1,0,2,2,2,2,1,1,1,0]
def zb1:List Bs:=[[],[],[124],[38],[92],[59],[94,45,49],[43],[42],[]]
structure GlobK (w:World):Prop where
 op:zav w ⟨4,0,none⟩ (za2.map strV)
 st:zav w ⟨2,0,none⟩ (strL.map fun n=>i64 (n:Nat))
 sg:zav w ⟨3,0,none⟩ (zb1.map strV)
 nd:zav w ⟨1,0,none⟩ (zht.map i64)
 lt:4<w.heap.size
theorem GlobK.below {w w2:World} (h:GlobK w) (hb:Bw w w2):GlobK w2 :=
 ⟨zar hb h.op,zar hb h.st,zar hb h.sg,zar hb h.nd,nL h.lt hb.size⟩
theorem zcO (c k:UInt8):decide ((c.toNat:Int)=(k.toNat:Int))=decide (c=k):=by
 rw [decide_eq_decide];constructor
 ·intro h;exact UInt8.toNat_inj.1 (by omega)
 ·rintro rfl;rfl
theorem zfI {s:Bs} {k:Nat} (h:k<s.length):(bs s).data.toList[k]?=some s[k]:=by
 show s[k]?=_;exact gE h
theorem zhA (c:UInt8) (w:World):Calls Tryz.prog 177 #[u8 c] w fun e w'=>e = .returned (.bool (zcs c))/\w=w':=by
 refine cofE 9 [u8 c] Tryz.func177 ?_;refine biE (fun h=>?_) fun h=>?_
 ·have h:(97:Int)<=(c.toNat:Int):=dT h;refine⟨rb ?_,rfl⟩;unfold zcs;rw [decide_eq_true (p:=97<=c.toNat) (by omega),Bool.true_and];show decide ((c.toNat:Int)<=122)=_;rw [decide_eq_decide];omega
 ·have h:¬ (97:Int)<=(c.toNat:Int):=dF h;refine⟨rb ?_,rfl⟩;unfold zcs;rw [decide_eq_false (p:=97<=c.toNat) (by omega)];rfl
theorem zjV (c:UInt8) (w:World):Calls Tryz.prog 181 #[u8 c] w fun e w'=>e = .returned (.bool (zbu c))/\w=w':=by
 refine cofE 9 [u8 c] Tryz.func181 ?_;refine biE (fun h=>?_) fun h=>?_
 ·have h:(65:Int)<=(c.toNat:Int):=dT h;refine⟨rb ?_,rfl⟩;unfold zbu;rw [decide_eq_true (p:=65<=c.toNat) (by omega),Bool.true_and];show decide ((c.toNat:Int)<=90)=_;rw [decide_eq_decide];omega
 ·have h:¬ (65:Int)<=(c.toNat:Int):=dF h;refine⟨rb ?_,rfl⟩;unfold zbu;rw [decide_eq_false (p:=65<=c.toNat) (by omega)];rfl
theorem zo0 (c:UInt8) (w:World):Calls Tryz.prog 175 #[u8 c] w fun e w'=>e = .returned (.bool (zaY c))/\w=w':=by
 refine cofE 9 [u8 c] Tryz.func175 ?_;unfold zaY;refine biE (fun h=>?_) fun h=>?_
 ·have h:decide (c=32)=true:=(zcO c 32).symm.trans h;exact⟨rb (by rw [h];rfl),rfl⟩
 ·have h:decide (c=32)=false:=(zcO c 32).symm.trans h;exact⟨rb (by rw [h];exact zcO c 9),rfl⟩
theorem zqd (c:UInt8) (w:World):Calls Tryz.prog 176 #[u8 c] w fun e w'=>e = .returned (.bool (zfS c))/\w=w':=by
 refine cofE 5 [u8 c] Tryz.func176 ?_;refine⟨rb ?_,rfl⟩;unfold zfS;have:=zcO c 10;rw [decide_not,<- this];rfl
theorem zoL (c:UInt8) (w:World):Calls Tryz.prog 178 #[u8 c] w fun e w'=>e = .returned (.bool (za7 c))/\w=w':=by
 refine cofE 17 [u8 c] Tryz.func178 ?_;refine cmo (zhA c w) ?_;rintro e _ ⟨rfl,rfl⟩;unfold za7;refine biE (fun h=>?_) fun h=>?_
 ·have h:zcs c=true:=h;refine brT ?_;exact⟨rb (by rw [h];rfl),rfl⟩
 have h:zcs c=false:=h;rw [h];refine biE (fun h1=>?_) fun h1=>?_
 ·have h1:(48:Int)<=(c.toNat:Int):=dT h1;have e1:decide (48<=c.toNat)=true:=decide_eq_true (by omega);rw [e1];refine biE (fun h2=>?_) fun h2=>?_
  ·have h2:(c.toNat:Int)<=57:=dT h2;exact⟨rb (by rw [decide_eq_true (p:=c.toNat<=57) (by omega)];rfl),rfl⟩
  ·have h2:¬ (c.toNat:Int)<=57:=dF h2;exact⟨rb (by rw [decide_eq_false (p:=c.toNat<=57) (by omega)];exact zcO c 45),rfl⟩
 ·have h1:¬ (48:Int)<=(c.toNat:Int):=dF h1;refine brF ?_;exact⟨rb (by rw [decide_eq_false (p:=48<=c.toNat) (by omega)];exact zcO c 45),rfl⟩
theorem zc0 {p:UInt8->Bool} {s:Bs} {k:Nat} (h:k<s.length):runE p s k=if p s[k] then runE p s (k+1) else k:=by
 unfold runE runL;rw [List.drop_eq_getElem_cons h,List.takeWhile_cons]
 split
 ·rw [List.length_cons];omega
 ·rfl
theorem zes {p:UInt8->Bool} {s:Bs} {k:Nat} (h:s.length<=k):runE p s k=k:=by
 unfold runE runL;rw [List.drop_of_length_le h];rfl
theorem zef {p:UInt8->Bool} {s:Bs} {k:Nat} (h:k<=s.length):runE p s k<=s.length:=by
 unfold runE runL;have:=(List.takeWhile_sublist p (l:=s.drop k)).length_le;rw [List.length_drop] at this;omega
theorem zj5 {p:UInt8->Bool} {s:Bs} {k:Nat}:k<=runE p s k:=Nat.le_add_right _ _
theorem zj4 {p:UInt8->Bool} {s:Bs} {k:Nat}:(s.drop k).take (runE p s k-k)=runL p s k:=by
 unfold runE;rw [Nat.add_sub_cancel_left];unfold runL;exact (List.prefix_iff_eq_take.1 (List.takeWhile_prefix p)).symm
theorem zma (s:Bs) (a:Nat) (ha:a<=s.length) (hs:s.length<=140737488351232) (w:World):Calls Tryz.prog 174 #[strV s,i64 (a:Nat),.func (.func 175) #[] #[]] w fun e w'=>e = .returned (i64 (runE zaY s a:Nat))/\w=w':=by
 refine cofE 21 [strV s,i64 (a:Nat),.func (.func 175) #[] #[]] Tryz.func174 ?_;refine⟨Nat,fun k=>⟨[(0,strV s),(1,.int .i64 (k:Nat)),(2,.func (.func 175) #[] #[])],[]⟩,fun k X=>k<=s.length/\runE zaY s k=runE zaY s a/\w=X,fun k=>s.length-k,a,(cvE rfl rfl),⟨ha,rfl,rfl⟩,?_⟩;rintro k _ ⟨hk,he,rfl⟩;dsimp only at hk he ⊢;refine biE (fun hc=>?_) fun hc=>?_
 ·have hc:(k:Int)<(s.length:Int):=dT hc;have hl:k<s.length:=by omega
  refine⟨k,rfl,hl,s[k],zfI hl,?_⟩;refine cmo (zo0 _ _) ?_;rintro e _ ⟨rfl,rfl⟩;refine biE (fun hi=>?_) fun hi=>?_
  ·have hi:zaY s[k]=true:=hi;refine⟨(k+1:Nat),(zai (by omega)).trans (by omega),?_⟩;refine⟨k+1,(cvE rfl rfl),⟨hl,?_,rfl⟩,zdc (by omega)⟩;rw [zc0 hl,if_pos hi] at he;exact he
  ·have hi:zaY s[k]=false:=hi;rw [zc0 hl,if_neg (by rw [hi];exact Bool.false_ne_true)] at he;exact⟨by rw [<- he];rfl,rfl⟩
 ·have hc:¬ (k:Int)<(s.length:Int):=dF hc;refine brF ?_;rw [zes (by omega)] at he;exact⟨by rw [<- he];rfl,rfl⟩
theorem zog (s:Bs) (a:Nat) (ha:a<=s.length) (hs:s.length<=140737488351232) (w:World):Calls Tryz.prog 174 #[strV s,i64 (a:Nat),.func (.func 176) #[] #[]] w fun e w'=>e = .returned (i64 (runE zfS s a:Nat))/\w=w':=by
 refine cofE 21 [strV s,i64 (a:Nat),.func (.func 176) #[] #[]] Tryz.func174 ?_;refine⟨Nat,fun k=>⟨[(0,strV s),(1,.int .i64 (k:Nat)),(2,.func (.func 176) #[] #[])],[]⟩,fun k X=>k<=s.length/\runE zfS s k=runE zfS s a/\w=X,fun k=>s.length-k,a,(cvE rfl rfl),⟨ha,rfl,rfl⟩,?_⟩;rintro k _ ⟨hk,he,rfl⟩;dsimp only at hk he ⊢;refine biE (fun hc=>?_) fun hc=>?_
 ·have hc:(k:Int)<(s.length:Int):=dT hc;have hl:k<s.length:=by omega
  refine⟨k,rfl,hl,s[k],zfI hl,?_⟩;refine cmo (zqd _ _) ?_;rintro e _ ⟨rfl,rfl⟩;refine biE (fun hi=>?_) fun hi=>?_
  ·have hi:zfS s[k]=true:=hi;refine⟨(k+1:Nat),(zai (by omega)).trans (by omega),?_⟩;refine⟨k+1,(cvE rfl rfl),⟨hl,?_,rfl⟩,zdc (by omega)⟩;rw [zc0 hl,if_pos hi] at he;exact he
  ·have hi:zfS s[k]=false:=hi;rw [zc0 hl,if_neg (by rw [hi];exact Bool.false_ne_true)] at he;exact⟨by rw [<- he];rfl,rfl⟩
 ·have hc:¬ (k:Int)<(s.length:Int):=dF hc;refine brF ?_;rw [zes (by omega)] at he;exact⟨by rw [<- he];rfl,rfl⟩
theorem zig (s:Bs) (a:Nat) (ha:a<=s.length) (hs:s.length<=140737488351232) (w:World):Calls Tryz.prog 174 #[strV s,i64 (a:Nat),.func (.func 178) #[] #[]] w fun e w'=>e = .returned (i64 (runE za7 s a:Nat))/\w=w':=by
 refine cofE 21 [strV s,i64 (a:Nat),.func (.func 178) #[] #[]] Tryz.func174 ?_;refine⟨Nat,fun k=>⟨[(0,strV s),(1,.int .i64 (k:Nat)),(2,.func (.func 178) #[] #[])],[]⟩,fun k X=>k<=s.length/\runE za7 s k=runE za7 s a/\w=X,fun k=>s.length-k,a,(cvE rfl rfl),⟨ha,rfl,rfl⟩,?_⟩;rintro k _ ⟨hk,he,rfl⟩;dsimp only at hk he ⊢;refine biE (fun hc=>?_) fun hc=>?_
 ·have hc:(k:Int)<(s.length:Int):=dT hc;have hl:k<s.length:=by omega
  refine⟨k,rfl,hl,s[k],zfI hl,?_⟩;refine cmo (zoL _ _) ?_;rintro e _ ⟨rfl,rfl⟩;refine biE (fun hi=>?_) fun hi=>?_
  ·have hi:za7 s[k]=true:=hi;refine⟨(k+1:Nat),(zai (by omega)).trans (by omega),?_⟩;refine⟨k+1,(cvE rfl rfl),⟨hl,?_,rfl⟩,zdc (by omega)⟩;rw [zc0 hl,if_pos hi] at he;exact he
  ·have hi:za7 s[k]=false:=hi;rw [zc0 hl,if_neg (by rw [hi];exact Bool.false_ne_true)] at he;exact⟨by rw [<- he];rfl,rfl⟩
 ·have hc:¬ (k:Int)<(s.length:Int):=dF hc;refine brF ?_;rw [zes (by omega)] at he;exact⟨by rw [<- he];rfl,rfl⟩
theorem zl8 (s:Bs) (a:Nat) (ha:a<=s.length) (hs:s.length<=140737488351232) (w:World):Calls Tryz.prog 174 #[strV s,i64 (a:Nat),.func (.func 181) #[] #[]] w fun e w'=>e = .returned (i64 (runE zbu s a:Nat))/\w=w':=by
 refine cofE 21 [strV s,i64 (a:Nat),.func (.func 181) #[] #[]] Tryz.func174 ?_;refine⟨Nat,fun k=>⟨[(0,strV s),(1,.int .i64 (k:Nat)),(2,.func (.func 181) #[] #[])],[]⟩,fun k X=>k<=s.length/\runE zbu s k=runE zbu s a/\w=X,fun k=>s.length-k,a,(cvE rfl rfl),⟨ha,rfl,rfl⟩,?_⟩;rintro k _ ⟨hk,he,rfl⟩;dsimp only at hk he ⊢;refine biE (fun hc=>?_) fun hc=>?_
 ·have hc:(k:Int)<(s.length:Int):=dT hc;have hl:k<s.length:=by omega
  refine⟨k,rfl,hl,s[k],zfI hl,?_⟩;refine cmo (zjV _ _) ?_;rintro e _ ⟨rfl,rfl⟩;refine biE (fun hi=>?_) fun hi=>?_
  ·have hi:zbu s[k]=true:=hi;refine⟨(k+1:Nat),(zai (by omega)).trans (by omega),?_⟩;refine⟨k+1,(cvE rfl rfl),⟨hl,?_,rfl⟩,zdc (by omega)⟩;rw [zc0 hl,if_pos hi] at he;exact he
  ·have hi:zbu s[k]=false:=hi;rw [zc0 hl,if_neg (by rw [hi];exact Bool.false_ne_true)] at he;exact⟨by rw [<- he];rfl,rfl⟩
 ·have hc:¬ (k:Int)<(s.length:Int):=dF hc;refine brF ?_;rw [zes (by omega)] at he;exact⟨by rw [<- he];rfl,rfl⟩
theorem zoC (s:Bs):zd5 s<=4:=by
 have:=List.findIdx_le_length (xs:=za2) (p:=fun w=>decide (w=s));exact this
def zf8 (s:Bs):Int:=if zd5 s<4 then (zd5 s:Nat) else -1
theorem zoD {s:Bs} {k:Nat} (hk:k<za2.length) (h:za2[k]=s) (hno:∀ j (hj:j<za2.length),j<k->za2[j]≠s):zd5 s=k:=by
 unfold zd5;have h2:za2.findIdx (fun w=>decide (w=s))<=k:=by
  refine Nat.le_of_not_lt fun hlt2=>?_;have:=List.not_of_lt_findIdx hlt2;simp [h] at this
 have h3:za2.findIdx (fun w=>decide (w=s))<za2.length:=Nat.lt_of_le_of_lt h2 hk;have h4:za2[za2.findIdx (fun w=>decide (w=s))]=s:=by
  have:=List.findIdx_getElem (w:=h3);exact dT this
 rcases Nat.lt_or_ge (za2.findIdx (fun w=>decide (w=s))) k with h5 | h5
 ·exact absurd h4 (hno _ h3 h5)
 ·omega
theorem zko (s:Bs) (w:World) (hg:GlobK w):Calls Tryz.prog 102 #[strV s] w fun e w'=>e = .returned (i64 (zf8 s))/\w=w':=by
 refine cofE 15 [strV s] Tryz.func102 ?_;refine⟨za2.map strV,rfl,hg.op,hg.lt,?_⟩;refine⟨Nat,fun k=>⟨[(0,strV s),(5,.agg (za2.map strV).toArray),(6,.int .i64 (k:Nat))],[]⟩,fun k V=>k<=4/\(∀ j (hj:j<za2.length),j<k->za2[j]≠s)/\w=V,fun k=>4-k,0,
  (cvE rfl rfl),⟨Nat.zero_le _,fun _ _ h=>absurd h (by omega),rfl⟩,?_⟩
 rintro k _ ⟨hk,hno,rfl⟩;refine biE (fun h=>?_) fun h=>?_
 ·have h:(k:Int)<4:=dT h;have hkl:k<za2.length:=by show k<4;omega
  refine⟨k,rfl,by omega,?_⟩;have hget:(za2.map strV)[k*1]?=some (strV za2[k]):=by
   rw [Nat.mul_one,List.getElem?_map,gE hkl];rfl
  refine zcR hget ?_;refine⟨_,fun w=>zay _ _ za2[k] s w,?_⟩;refine biE (fun h1=>?_) fun h1=>?_
  ·have h1:za2[k]=s:=dT h1;have hi:=zoD hkl h1 hno;refine And.intro ?_ rfl;unfold zf8;rw [hi,if_pos (by omega)];rfl
  ·have h1:¬ za2[k]=s:=dF h1;refine⟨(k+1:Nat),(zai (by omega)).trans (by omega),?_⟩;refine⟨k+1,(cvE rfl rfl),⟨by omega,fun j hj hjk=>?_,rfl⟩,by dsimp only;omega⟩;by_cases e:j=k
   ·subst e;exact h1
   ·exact hno j hj (by omega)
 ·have h:¬ (k:Int)<4:=dF h;have hi:¬ zd5 s<4:=fun h3=>by
   have h3:za2.findIdx (fun w=>decide (w=s))<za2.length:=h3;have h4:za2[za2.findIdx (fun w=>decide (w=s))]=s:=dT (List.findIdx_getElem (w:=h3));exact hno _ h3 (by have:za2.length=4:=rfl;omega) h4
  refine And.intro ?_ rfl;unfold zf8;rw [if_neg hi];rfl
theorem zmV (s:Bs):decide ((0:Int)<=zf8 s)=decide (zd5 s<4):=by
 unfold zf8;rw [decide_eq_decide]
 split <;> omega
theorem zmY (s:Bs) (w:World) (hg:GlobK w):Calls Tryz.prog 179 #[strV s] w fun e w'=>e = .returned (.bool (keyB s))/\w=w':=by
 refine cofE 10 [strV s] Tryz.func179 ?_;unfold keyB;refine⟨_,fun w=>zay _ _ s [97,115] w,?_⟩;refine biE (fun h=>?_) fun h=>?_
 ·have h:decide (s=[97,115])=true:=h;exact⟨rb (by rw [h];rfl),rfl⟩
 ·have h:decide (s=[97,115])=false:=h;rw [h];refine cmo (zko s w hg) ?_;rintro e _ ⟨rfl,rfl⟩;exact⟨rb (zmV s),rfl⟩
theorem za3 {s w:Bs} (h:decide (s=w)=false):decide (w=s)=false:=decide_eq_false fun e=>dF h e.symm
theorem zhF (s:Bs) (w:World):Calls Tryz.prog 106 #[strV s] w fun e w'=>e = .returned (.bool (relB s))/\w=w':=by
 refine cofE 16 [strV s] Tryz.func106 ?_;refine⟨_,fun w=>zay _ _ s [112,111] w,?_⟩;refine biE (fun h0=>?_) fun h0=>?_
 ·refine brE h0 ?_;have e:s=[112,111]:=dT h0;exact⟨rb (by rw [e];rfl),rfl⟩
 refine⟨_,fun w=>zay _ _ s [114,102] w,?_⟩;refine biE (fun h1=>?_) fun h1=>?_
 ·refine brE h1 ?_;have e:s=[114,102]:=dT h1;exact⟨rb (by rw [e];rfl),rfl⟩
 refine⟨_,fun w=>zay _ _ s [99,111] w,?_⟩;refine biE (fun h2=>?_) fun h2=>?_
 ·refine brE h2 ?_;have e:s=[99,111]:=dT h2;exact⟨rb (by rw [e];rfl),rfl⟩
 refine⟨_,fun w=>zay _ _ s [102,114] w,?_⟩;refine biE (fun h3=>?_) fun h3=>?_
 ·refine brE h3 ?_;have e:s=[102,114]:=dT h3;exact⟨rb (by rw [e];rfl),rfl⟩
 refine⟨_,fun w=>zay _ _ s [114,109,119] w,?_⟩;refine biE (fun h4=>?_) fun h4=>?_
 ·refine brE h4 ?_;have e:s=[114,109,119]:=dT h4;exact⟨rb (by rw [e];rfl),rfl⟩
 refine⟨_,fun w=>zay _ _ s [100,97,116,97] w,?_⟩;refine biE (fun h5=>?_) fun h5=>?_
 ·refine brE h5 ?_;have e:s=[100,97,116,97]:=dT h5;exact⟨rb (by rw [e];rfl),rfl⟩
 refine⟨_,fun w=>zay _ _ s [99,116,114,108] w,?_⟩;refine biE (fun h6=>?_) fun h6=>?_
 ·refine brE h6 ?_;have e:s=[99,116,114,108]:=dT h6;exact⟨rb (by rw [e];rfl),rfl⟩
 refine⟨_,fun w=>zay _ _ s [108,111,99] w,?_⟩;refine biE (fun h7=>?_) fun h7=>?_
 ·refine brE h7 ?_;have e:s=[108,111,99]:=dT h7;exact⟨rb (by rw [e];rfl),rfl⟩
 refine⟨_,fun w=>zay _ _ s [105,100] w,?_⟩;refine biE (fun h8=>?_) fun h8=>?_
 ·refine brE h8 ?_;have e:s=[105,100]:=dT h8;exact⟨rb (by rw [e];rfl),rfl⟩
 refine⟨_,fun w=>zay _ _ s [101,120,116] w,?_⟩;refine biE (fun h9=>?_) fun h9=>?_
 ·refine brE h9 ?_;have e:s=[101,120,116]:=dT h9;exact⟨rb (by rw [e];rfl),rfl⟩
 refine⟨_,fun w=>zay _ _ s [105,110,116] w,?_⟩;refine biE (fun h10=>?_) fun h10=>?_
 ·have e:s=[105,110,116]:=dT h10;exact⟨rb (by rw [e];rfl),rfl⟩
 refine⟨rb ?_,rfl⟩;unfold relB;simp only [List.any_cons,List.any_nil,za3 h0,za3 h1,za3 h2,za3 h3,za3 h4,za3 h5,za3 h6,za3 h7,za3 h8,za3 h9,za3 h10,Bool.or_false]
theorem zmX (s:Bs) (w:World):Calls Tryz.prog 113 #[strV s] w fun e w'=>e = .returned (.bool (setB s))/\w=w':=by
 refine cofE 16 [strV s] Tryz.func113 ?_;refine⟨_,fun w=>zay _ _ s [82] w,?_⟩;refine biE (fun h0=>?_) fun h0=>?_
 ·refine brE h0 ?_;have e:s=[82]:=dT h0;exact⟨rb (by rw [e];rfl),rfl⟩
 refine⟨_,fun w=>zay _ _ s [87] w,?_⟩;refine biE (fun h1=>?_) fun h1=>?_
 ·refine brE h1 ?_;have e:s=[87]:=dT h1;exact⟨rb (by rw [e];rfl),rfl⟩
 refine⟨_,fun w=>zay _ _ s [70] w,?_⟩;refine biE (fun h2=>?_) fun h2=>?_
 ·refine brE h2 ?_;have e:s=[70]:=dT h2;exact⟨rb (by rw [e];rfl),rfl⟩
 refine⟨_,fun w=>zay _ _ s [77] w,?_⟩;refine biE (fun h3=>?_) fun h3=>?_
 ·refine brE h3 ?_;have e:s=[77]:=dT h3;exact⟨rb (by rw [e];rfl),rfl⟩
 refine⟨_,fun w=>zay _ _ s [65] w,?_⟩;refine biE (fun h4=>?_) fun h4=>?_
 ·refine brE h4 ?_;have e:s=[65]:=dT h4;exact⟨rb (by rw [e];rfl),rfl⟩
 refine⟨_,fun w=>zay _ _ s [76] w,?_⟩;refine biE (fun h5=>?_) fun h5=>?_
 ·refine brE h5 ?_;have e:s=[76]:=dT h5;exact⟨rb (by rw [e];rfl),rfl⟩
 refine⟨_,fun w=>zay _ _ s [88] w,?_⟩;refine biE (fun h6=>?_) fun h6=>?_
 ·refine brE h6 ?_;have e:s=[88]:=dT h6;exact⟨rb (by rw [e];rfl),rfl⟩
 refine⟨_,fun w=>zay _ _ s [70,70] w,?_⟩;refine biE (fun h7=>?_) fun h7=>?_
 ·refine brE h7 ?_;have e:s=[70,70]:=dT h7;exact⟨rb (by rw [e];rfl),rfl⟩
 refine⟨_,fun w=>zay _ _ s [70,76] w,?_⟩;refine biE (fun h8=>?_) fun h8=>?_
 ·refine brE h8 ?_;have e:s=[70,76]:=dT h8;exact⟨rb (by rw [e];rfl),rfl⟩
 refine⟨_,fun w=>zay _ _ s [70,83] w,?_⟩;refine biE (fun h9=>?_) fun h9=>?_
 ·refine brE h9 ?_;have e:s=[70,83]:=dT h9;exact⟨rb (by rw [e];rfl),rfl⟩
 refine⟨_,fun w=>zay _ _ s [73] w,?_⟩;refine biE (fun h10=>?_) fun h10=>?_
 ·have e:s=[73]:=dT h10;exact⟨rb (by rw [e];rfl),rfl⟩
 refine⟨rb ?_,rfl⟩;unfold setB;simp only [List.any_cons,List.any_nil,za3 h0,za3 h1,za3 h2,za3 h3,za3 h4,za3 h5,za3 h6,za3 h7,za3 h8,za3 h9,za3 h10,Bool.or_false]
def zaR (t:Tk):List Value:=[u8n t.kind,strV t.text,i64 (t.at_:Nat)]
theorem zjZ (k:Nat) (t:Bs) (a:Nat) (w:World):CB 180 #[u8n k,strV t,i64 (a:Nat)] w (.agg (zaR (zcb k t a)).toArray):=by
 refine cofE 16 [u8n k,strV t,i64 (a:Nat)] Tryz.func180 ?_;have f0:=hnew w (.cells #[.int .u8 0,strV [],i64 0] 106);have b0:Bw w (w.alloc (.cells #[.int .u8 0,strV [],i64 0] 106)):=zba w _;have fin:∀ {T:Tk} {K:World->Prop},(∀ Y,Bw w Y->Y.heap[w.heap.size]?=some (.cells (zaR T).toArray 106 (0,0))->K Y)->SatR ((storeVar 106 ⟨w.heap.size,0,none⟩ (.agg (zaR T).toArray)).run Tryz.prog (w.alloc (.cells #[.int .u8 0,strV [],i64 0] 106))) fun _ w'=>K w' :=
  fun {T K} k=>zas k106 f0 rfl rfl rfl (k _ (zaj b0 (Nat.le_refl _) _) (zan f0))
 refine biE (fun h=>?_) fun h=>?_
 ·have h:(16:Int)<(t.length:Int):=dT h;have e1:zcb k t a=⟨0,[],a⟩:=by unfold zcb;rw [if_pos (by omega)]
  rw [e1];refine⟨zaR ⟨0,[],a⟩,rfl,?_⟩;refine fin (T:=⟨0,[],a⟩) fun Y hb f=>?_;exact⟨zaR ⟨0,[],a⟩,rfl,zaa f,rfl,hb⟩
 ·have h:¬ (16:Int)<(t.length:Int):=dF h;have e1:zcb k t a=⟨k,t,a⟩:=by unfold zcb;rw [if_neg (by omega)]
  rw [e1];refine⟨zaR ⟨k,t,a⟩,rfl,?_⟩;refine fin (T:=⟨k,t,a⟩) fun Y hb f=>?_;exact⟨zaR ⟨k,t,a⟩,rfl,zaa f,rfl,hb⟩
end Go.Proofs.YtkpkdmipjinoaaaGreatDoor
namespace Go.Proofs
open Go.Shelf
def Tryz.lays137_ren:Go.Shelf.Ren:=⟨fun | 137=>12 | 217=>48 | 266=>110 | n=>n,fun | 9=>9 | 5=>5 | 3=>3 | n=>n,fun | n=>n⟩
theorem Tryz.lays137:Go.Proofs.Lays.n137 Tryz.prog Tryz.lays137_ren:={
 mixed:=by kernel_rfl
 f137:=Tryz.func12.trans (congrArg some (by kernel_rfl))
 f217:=Tryz.func48.trans (congrArg some (by kernel_rfl))
 f266:=Tryz.func110.trans (congrArg some (by kernel_rfl))
 t3:=Tryz.underlying3
 a3:=Tryz.isAgg3
 z3:=Tryz.sizeOf3
 v3:=Tryz.zeroValue3
 t5:=Tryz.underlying5
 a5:=Tryz.isAgg5
 z5:=Tryz.sizeOf5
 v5:=Tryz.zeroValue5
 t9:=Tryz.underlying9
 a9:=Tryz.isAgg9
 z9:=Tryz.sizeOf9
 v9:=Tryz.zeroValue9 }
open Go.RowKit in
theorem Tryz.strings_IndexByte (s:ByteArray) (c:Int) (w:World) :
  Calls Tryz.prog 12 #[.string s,.int .u8 c] w fun e w'=>e = .returned (.int .i64 (Lib.indexByte s.data.toList c.toNat.toUInt8))∧w'=w:=Any.strings_IndexByte Tryz.lays137 s c w
def Tryz.lays149_ren:Go.Shelf.Ren:=⟨fun | 149=>11 | 222=>47 | n=>n,fun | 9=>9 | 5=>5 | 3=>3 | 4=>4 | n=>n,fun | n=>n⟩
theorem Tryz.lays149:Go.Proofs.Lays.n149 Tryz.prog Tryz.lays149_ren:={
 mixed:=by kernel_rfl
 f149:=Tryz.func11.trans (congrArg some (by kernel_rfl))
 f222:=Tryz.func47.trans (congrArg some (by kernel_rfl))
 t3:=Tryz.underlying3
 a3:=Tryz.isAgg3
 z3:=Tryz.sizeOf3
 v3:=Tryz.zeroValue3
 t4:=Tryz.underlying4
 a4:=Tryz.isAgg4
 z4:=Tryz.sizeOf4
 v4:=Tryz.zeroValue4
 t5:=Tryz.underlying5
 a5:=Tryz.isAgg5
 z5:=Tryz.sizeOf5
 v5:=Tryz.zeroValue5
 t9:=Tryz.underlying9
 a9:=Tryz.isAgg9
 z9:=Tryz.sizeOf9
 v9:=Tryz.zeroValue9 }
open Go.RowKit Go.Lib in
theorem Tryz.strings_LastIndexByte (s:ByteArray) (c:Int) (hs:s.size<4611686018427387904) (w:World) :
  Calls Tryz.prog 11 #[.string s,.int .u8 c] w fun e w'=>e = .returned (.int .i64 (Lib.lastIndexByte s c))∧w'=w:=Any.strings_LastIndexByte Tryz.lays149 s c hs w
def Tryz.lays99_ren:Go.Shelf.Ren:=⟨fun | 99=>89 | 206=>161 | n=>n,fun | 9=>9 | 4=>4 | 3=>3 | n=>n,fun | n=>n⟩
theorem Tryz.lays99:Go.Proofs.Lays.n99 Tryz.prog Tryz.lays99_ren:={
 mixed:=by kernel_rfl
 f99:=Tryz.func89.trans (congrArg some (by kernel_rfl))
 f206:=Tryz.func161.trans (congrArg some (by kernel_rfl))
 t3:=Tryz.underlying3
 a3:=Tryz.isAgg3
 z3:=Tryz.sizeOf3
 v3:=Tryz.zeroValue3
 t4:=Tryz.underlying4
 a4:=Tryz.isAgg4
 z4:=Tryz.sizeOf4
 v4:=Tryz.zeroValue4
 t9:=Tryz.underlying9
 a9:=Tryz.isAgg9
 z9:=Tryz.sizeOf9
 v9:=Tryz.zeroValue9 }
open Go.RowKit Go.Lib in
theorem Tryz.strings_HasPrefix (s p:ByteArray) (w:World) :
  Calls Tryz.prog 89 #[.string s,.string p] w fun e w'=>e = .returned (.bool (Lib.hasPrefix s.data.toList p.data.toList))∧w'=w:=Any.strings_HasPrefix Tryz.lays99 s p w
end Go.Proofs
