/- Contracts of functions, and plain facts, for the law that the last text of this claim proves. -/
import Derived.Test.YtnadlhpkpnfmbaaGreatDoorE5
import Derived.Test.YtnadlhpkpnfmbaaGreatDoorE2
import Derived.Test.YtnadlhpkpnfmbaaGreatDoorE4
import Derived.Test.YtnadlhpkpnfmbaaGreatDoorE1
import Derived.Lib.AppendStr
import Derived.KernelRfl
set_option linter.unusedSimpArgs false
set_option linter.unusedVariables false
namespace Go.Proofs.YtnadlhpkpnfmbaaGreatDoor
open Go.Vc Go.RowKit Go.Sei
section
variable {g l c:Nat} {s:Bs} {st:PS} {w w2 w3 X:Wd}
theorem zio {used:Bs->Bool} {nq:Bs} {st2:PS} (h:q9 (zr s) used st=(some nq,st2)) (hp:st.tok.at_+st.tok.text.length<=s.length):nq.length<=s.length:=by
 unfold q9 at h
 split at h
 ·cases h
 ·split at h
  ·cases h
  ·rw [<- Ug (Gf h).1];omega
def zv5 (g l c:Nat) (s:Bs) (w:Wd) (R:Option LineD×PS) (ok:Bool) (k:Nat) (nq:Bs) (t:Trm) (q:OA) (cap:Nat) (st':PS) (Y:Wd):Prop :=
 ParB g l c s st' Y/\LinB w g l c k nq t q cap Y/\(ok=true->R=zhQ ⟨k,nq,t⟩ st'/\k<=3/\nq.length<=8192/\t.name.length<=8192/\KidsT (fun b=>w.heap.size+2<b) Y q t.kids)/\(ok=false->R=(none,st'))
theorem zrn (many:Nat) (h:ParB g l c s st w):Calls PG 67 #[At0 g,i64 (many:Nat)] w (zqA g l c s w (zak (zr s) 40000 many st)):=by
 refine z6 112 [At0 g,i64 (many:Nat)] (.s .p (.c .p (.s .p (.s .p (.s .p (.s .p (.s .p (.c .p (.c .p .p))))))))) Tryz.func67 ?_;obtain⟨R,hR⟩:=nm (zak (zr s) 40000 many st);rw [<- hR];unfold zak at hR;have hgw:=h.lt;have hlen:=h.len;have hpos:=h.pos;have og:=h.ord;refine⟨Unit,fun _=>⟨[(1,i64 (many:Nat)),(2,At0 w.heap.size),(4,At0 (w.heap.size+1)),(6,At0 (w.heap.size+2))],[]⟩,fun _ Y=>ParB g l c s st Y/\LinB w g l c 0 [] zT none 0 Y,?_,?_⟩
 ·obtain⟨W1,e1⟩:=nm (w.alloc (.cells #[At0 g] 132));have n1:W1.heap.size=w.heap.size+1:=by rw [e1];exact wz _ _
  have f1:W1.heap[w.heap.size]?=some (.cells #[At0 g] 132 (0,0)):=by rw [e1];exact zA w _
  have b1:Bw w W1:=by rw [e1];exact zba _ _
  obtain⟨W2,e2⟩:=nm (W1.alloc (.cells (zz 0 [] zT none 0).toArray 49));have n2:W2.heap.size=w.heap.size+2:=by rw [e2,wz,n1]
  have f2:W2.heap[w.heap.size+1]?=some (.cells (zz 0 [] zT none 0).toArray 49 (0,0)):=by rw [e2,<- n1];exact zA W1 _
  have b2:Bw W1 W2:=by rw [e2];exact zba _ _
  obtain⟨W3,e3⟩:=nm (W2.alloc (.cells (zz 0 [] zT none 0).toArray 49));have f3:W3.heap[w.heap.size+2]?=some (.cells (zz 0 [] zT none 0).toArray 49 (0,0)):=by rw [e3,<- n2];exact zA W2 _
  have b3:Bw W2 W3:=by rw [e3];exact zba _ _
  have b13:=zst b1 (zst b2 b3);refine⟨(),⟨.cons rfl (.cons ?_ (.cons ?_ (.cons ?_ .nil))),rfl⟩,?_⟩
  ·rfl
  ·show some (At0 (w.alloc (.cells #[At0 g] 132)).heap.size)=_;rw [wz]
  ·show some (At0 ((w.alloc (.cells #[At0 g] 132)).alloc (.cells (zz 0 [] zT none 0).toArray 49)).heap.size)=_;rw [wz,wz]
  ·show _/\_;have key:ParB g l c s st W3/\LinB w g l c 0 [] zT none 0 W3:=⟨h.below b13,zb b3 (zb b2 f1),zb b3 f2,f3,.of_below b13⟩;rw [e3,e2,e1] at key;exact key
 rintro _ Y ⟨hY,lY⟩;dsimp only;refine⟨_,zc (za lY.p) (i:=0) rfl,_,zc (za hY.f) (i:=2) rfl,cmo (zkq st.tok.text Y hY.glob) ?_⟩;rintro e _ ⟨rfl,rfl⟩;have bD:=(Gh Y.heap.size Y).drew;have hD:=hY.below bD;have lD:=lY.below bD;have sz0:w.heap.size+2<Y.heap.size:=hlt lY.x;have bad:∀ n:Int,R=(none,zam n st)->∀ {Z:Wd},ParB g l c s (zam n st) Z->Y.drew.grownBy Z (some g)->SatR ((storeVar 49 ⟨w.heap.size+1,0,none⟩ (.agg (zz 0 [] zT none 0).toArray)).run PG Z) fun _ w'=>∃ us:List Value,us.length=5/\zo w' ⟨w.heap.size+1,0,none⟩ us/\zqA g l c s w R (.returned (jI [.agg us.toArray,.bool false])) w':=by
  intro n hR Z hZ gZ;exact (lD.grown (.inl rfl) hgw gZ).fin hZ hgw (by rw [hR];rfl) (by rw [hR]) (fun x hx=>by rw [hR] at hx;cases hx)
 refine⟨_,zc (za lY.p) (i:=0) rfl,_,zc (za hY.f) (i:=1) rfl,?_⟩;have r4:(st.tok.kind≠3\/zaK st.tok.text ≥ 4)->R=(none,zam 110 st):=fun hc=>by rw [hR,Gx hc]
 refine biE (fun h1=>?_) fun h1=>?_
 ·have h1:(!decide ((st.tok.kind:Int)=((3:Nat):Int)))=true:=h1;rw [zP] at h1;have hR:=r4 (.inl (by simpa using h1));refine brT (DrawE.treeQ [2,3] (.op 1 (.alt (.op 2 (.op 0 (.op 3 (.op 4 .nil)))) (.op 0 (.op 2 (.op 3 (.op 4 .nil)))))) (by kernel_rfl) ⟨_,zc (za lD.p) (i:=0) rfl,Gm ?_ ?_⟩)
  ·refine cmo (js hD 110) ?_;rintro e Z ⟨rfl,hZ,gZ⟩;have lZ:=lD.grown (.inl rfl) hgw gZ;exact⟨_,rfl,za lZ.x,hlt lZ.x,bad 110 hR hZ gZ⟩
  ·refine⟨_,rfl,za lD.x,hlt lD.x,cmo (js hD 110) ?_⟩;rintro e Z ⟨rfl,hZ,gZ⟩;exact bad 110 hR hZ gZ
 have h1:(!decide ((st.tok.kind:Int)=((3:Nat):Int)))=false:=h1;rw [zP] at h1;have h1:st.tok.kind=3:=by simpa using h1
 have hl4:=zpy st.tok.text;refine biE (fun h2=>?_) fun h2=>?_
 ·have h2:zdf st.tok.text<0:=dT h2;have hR:=r4 (.inr (by unfold zdf at h2;split at h2 <;> omega));refine DrawE.treeQ [2,3] (.op 1 (.alt (.op 2 (.op 0 (.op 3 (.op 4 .nil)))) (.op 0 (.op 2 (.op 3 (.op 4 .nil)))))) (by kernel_rfl) ?_;refine⟨_,zc (za lD.p) (i:=0) rfl,?_⟩;refine Gm ?_ ?_
  ·refine cmo (js hD 110) ?_;rintro e Z ⟨rfl,hZ,gZ⟩;have lZ:=lD.grown (.inl rfl) hgw gZ;exact⟨_,rfl,za lZ.x,hlt lZ.x,bad 110 hR hZ gZ⟩
  ·refine⟨_,rfl,za lD.x,hlt lD.x,cmo (js hD 110) ?_⟩;rintro e Z ⟨rfl,hZ,gZ⟩;exact bad 110 hR hZ gZ
 have h2:¬ zdf st.tok.text<0:=dF h2;have hk4:zaK st.tok.text<4:=by unfold zdf at h2;split at h2 <;> omega
 have hz:zdf st.tok.text=((zaK st.tok.text:Nat):Int):=by unfold zdf;rw [Gx hk4]
 rw [Gw (by rintro (h | h);exact h h1;omega)] at hR;rw [hz];refine biE (fun h3=>?_) fun h3=>?_
 ·have h3:(40:Int)<=(many:Int):=dT h3;rw [Gx (by omega)] at hR;refine DrawE.treeQ [2,3] (.op 1 (.alt (.op 2 (.op 0 (.op 3 (.op 4 .nil)))) (.op 0 (.op 2 (.op 3 (.op 4 .nil)))))) (by kernel_rfl) ⟨_,zc (za lD.p) (i:=0) rfl,Gm ?_ ?_⟩
  ·refine cmo (js hD 5) ?_;rintro e Z ⟨rfl,hZ,gZ⟩;have lZ:=lD.grown (.inl rfl) hgw gZ;exact⟨_,rfl,za lZ.x,hlt lZ.x,bad 5 hR hZ gZ⟩
  ·refine⟨_,rfl,za lD.x,hlt lD.x,cmo (js hD 5) ?_⟩;rintro e Z ⟨rfl,hZ,gZ⟩;exact bad 5 hR hZ gZ
 have h3:¬ (40:Int)<=(many:Int):=dF h3;rw [Gw (by omega)] at hR;clear bad r4 hD lD bD;obtain⟨st1,hs1⟩:=nm (nx s st);obtain⟨k,hkk⟩:=nm (zaK st.tok.text);rw [show zN (zr s) st=st1 from hs1.symm,<- hkk,show st.lets=st1.lets by rw [hs1];rfl] at hR;rw [<- hkk] at hk4 ⊢;refine⟨_,zc (za lY.p) (i:=0) rfl,cmo (zbp hY) ?_⟩;rw [show nx s st=st1 from hs1.symm];rintro e Z ⟨rfl,hZ,gZ⟩;have lZ:=lY.grown (.inl rfl) hgw gZ;refine⟨(k:Int),zjz (by omega),lZ.store hZ hgw (k':=k) (nq':=[]) (t':=zT) (q':=none) (cap':=0) (o:=0) (v:=u8n k) k5 rfl (by show 0+1<=5;decide) rfl rfl fun V hV lV _ _=>⟨Unit,fun _=>⟨[(2,At0 w.heap.size),(4,At0 (w.heap.size+1)),(6,At0 (w.heap.size+2))],[]⟩,fun _ Y=>ParB g l c s st1 Y/\LinB w g l c k [] zT none 0 Y,⟨(),(cvE rfl rfl),hV,lV⟩,?_⟩⟩;clear hV lV hZ lZ gZ hY lY sz0 h2 hz h1 hpos h;rintro _ Y ⟨hY,lY⟩;dsimp only;refine⟨Bool×Nat×Bs×Trm×OA×Nat×PS,fun y=>⟨[(2,At0 w.heap.size),(4,At0 (w.heap.size+1)),(6,At0 (w.heap.size+2)),(8,.bool y.1)],[]⟩,fun y Y=>zv5 g l c s w R y.1 y.2.1 y.2.2.1 y.2.2.2.1 y.2.2.2.2.1 y.2.2.2.2.2.1 y.2.2.2.2.2.2 Y,?_,?_⟩
 ·have hsz:w.heap.size+2<Y.heap.size:=hlt lY.x;have hpos:=hY.pos;refine⟨_,zc (za lY.x) (i:=0) rfl,biE (fun h4=>?_) fun h4=>?_⟩
  ·
   have h4:(k:Int)=0:=dT h4;obtain rfl:k=0:=by omega
   rw [Gx rfl] at hR;refine⟨_,zc (za lY.p) (i:=0) rfl,cmo (zlF hY lY.p) ?_⟩;rintro e Z ⟨rfl,hZ,gZ⟩;rcases hnm:q9 (zr s) (fun t=>jH t||st1.lets t) st1 with ⟨on,st2⟩;rw [hnm] at hR hZ;dsimp only at hZ hR ⊢;have lZ:=lY.grown (.inl rfl) hgw gZ;refine lZ.store hZ hgw (k':=0) (nq':=on.getD []) (t':=zT) (q':=none) (cap':=0) (o:=1) (v:=zn (on.getD [])) k9 rfl (by show 1+1<=5;decide) rfl rfl fun V hV lV _ sV=>?_
   cases on with
   | none =>
    exact brF (brF ⟨(false,0,[],zT,none,0,st2),(cvE rfl rfl),hV,lV,fun h=>Gy h Ku,fun _=>hR⟩)
   | some nq =>
    have hnl:=zio hnm hpos;dsimp only at hR;refine brT ⟨_,zc (za lV.p) (i:=0) rfl,cmo (zcp hV 6 [61]) ?_⟩;rintro e U ⟨rfl,hU,gU⟩;rcases hex:zY (zr s) 6 [61] st2 with ⟨oe,st3⟩;rw [hex] at hR hU;dsimp only at hU hR ⊢;have lU:=lV.grown (.inl rfl) hgw gU
    cases oe with
    | false =>
     exact brF ⟨(false,0,nq,zT,none,0,st3),(cvE rfl rfl),hU,lU,fun h=>Gy h Ku,fun _=>hR⟩
    | true =>
     dsimp only at hR;refine brT ?_;have su:w.heap.size+2<U.heap.size:=hlt lU.x;refine⟨_,zc (za lU.p) (i:=0) rfl,cmo (zjJ 40000 1 st3 U (by decide) hU (by have:=hU.len;omega)) ?_⟩;rintro e T ⟨t,q,cap,rfl,hk,hT,gT⟩;rcases htm:termP (zr s) 40000 1 st3 with ⟨ot,st4⟩;rw [htm] at hk hT hR;dsimp only at hk hT hR ⊢;have lT:=lU.grown (.inl rfl) hgw gT;refine lT.store hT hgw (k':=0) (nq':=nq) (t':=t) (q':=q) (cap':=cap) (o:=2) (v := .agg (zd t q cap).toArray) k24 rfl (by show 2+3<=5;decide) rfl rfl fun P hP lP oP sP=>DrawE.ord [6] [0,1,2,3,4,5,6] (by kernel_rfl) ?_;have bE:=(Gh P.heap.size P).drew;have hE:=hP.below bE;have lE:=lP.below bE;refine⟨_,zc (za lE.p) (i:=0) rfl,_,zc (za hE.f) (i:=4) rfl,_,zc (za lE.x) (i:=1) rfl,hE.setL nq fun N hN gN=>?_⟩;have lN:=lE.grown (.inr (.inl rfl)) (by omega) gN;refine⟨(ot.isSome,0,nq,t,q,cap,{ st4 with lets:=za3 st4.lets nq }),(cvE rfl rfl),hN,lN,fun ho=>?_,fun ho=>?_⟩
     ·cases ot with
      | none=>cases ho
      | some t1 =>
       obtain⟨e1,e2,e3⟩:=hk t1 rfl;refine⟨by rw [hR,<- e1],Ge _,by show nq.length<=8192;omega,e2,?_⟩;have k1:KidsT (fun b=>U.heap.size<=b/\b<T.heap.size) T q t.kids:=e3.there;refine (k1.by fun b cs ty fr hb hc=>?_).weak fun b hb=>by omega
       have hlw:=(jX hT.lm);rw [gN.block b (by have:=bE.size;omega) (by simp;omega),bE.block b (by omega),oP b (by omega)]
     ·cases ot with
      | none=>exact hR
      | some t1=>cases ho
  ·
   have h4:¬ (k:Int)=0:=dF h4;rw [Gw (by omega)] at hR;refine⟨_,zc (za lY.p) (i:=0) rfl,cmo (zjJ 40000 1 st1 Y (by decide) hY (by have:=hY.len;omega)) ?_⟩;rintro e T ⟨t,q,cap,rfl,hk,hT,gT⟩;rcases htm:termP (zr s) 40000 1 st1 with ⟨ot,st2⟩;rw [htm] at hk hT hR;dsimp only at hk hT hR ⊢;have lT:=lY.grown (.inl rfl) hgw gT;refine lT.store hT hgw (k':=k) (nq':=[]) (t':=t) (q':=q) (cap':=cap) (o:=2) (v := .agg (zd t q cap).toArray) k24 rfl (by show 2+3<=5;decide) rfl rfl fun P hP lP oP sP=>?_
   cases ot with
   | none =>
    exact brF (brF ⟨(false,k,[],t,q,cap,st2),(cvE rfl rfl),hP,lP,fun h=>Gy h Ku,fun _=>hR⟩)
   | some t1 =>
    obtain⟨e1,e2,e3⟩:=hk t1 rfl;subst e1;have k1:KidsT (fun b=>Y.heap.size<=b/\b<T.heap.size) T q t1.kids:=e3.there;have sT:=gT.size;dsimp only at hR;refine brT ⟨_,zc (za lP.p) (i:=0) rfl,cmo (zcp hP 3 [97,115]) ?_⟩;rintro e U ⟨rfl,hU,gU⟩;rcases hex:zY (zr s) 3 [97,115] st2 with ⟨oe,st3⟩;rw [hex] at hR hU;dsimp only at hU hR ⊢;have lU:=lP.grown (.inl rfl) hgw gU
    cases oe with
    | false =>
     exact brF ⟨(false,k,[],t1,q,cap,st3),(cvE rfl rfl),hU,lU,fun h=>Gy h Ku,fun _=>hR⟩
    | true =>
     dsimp only at hR;refine brT ?_;have hpu:=hU.pos;refine⟨_,zc (za lU.p) (i:=0) rfl,cmo (zlE hU lU.p) ?_⟩;rintro e Z ⟨rfl,hZ,gZ⟩;rcases hnm:q9 (zr s) st3.checks st3 with ⟨on,st4⟩;rw [hnm] at hR hZ;dsimp only at hZ hR ⊢;have lZ:=lU.grown (.inl rfl) hgw gZ;refine lZ.store hZ hgw (k':=k) (nq':=on.getD []) (t':=t1) (q':=q) (cap':=cap) (o:=1) (v:=zn (on.getD [])) k9 rfl (by show 1+1<=5;decide) rfl rfl fun V hV lV oV sV=>DrawE.ord [6] [0,1,2,3,4,5,6] (by kernel_rfl) ?_;have bE:=(Gh V.heap.size V).drew;have hE:=hV.below bE;have lE:=lV.below bE;refine⟨_,zc (za lE.p) (i:=0) rfl,_,zc (za hE.f) (i:=5) rfl,_,zc (za lE.x) (i:=1) rfl,hE.setC (on.getD []) fun N hN gN=>?_⟩;have lN:=lE.grown (.inr (.inr rfl)) (by omega) gN;refine⟨(on.isSome,k,on.getD [],t1,q,cap,{ st4 with checks:=za3 st4.checks (on.getD []) }),(cvE rfl rfl),hN,lN,fun ho=>?_,fun ho=>?_⟩
     ·cases on with
      | none=>cases ho
      | some nq =>
       have hnl:=zio hnm hpu;refine⟨by rw [hR];rfl,by show k<=3;omega,by show nq.length<=8192;omega,e2,?_⟩;refine (k1.by fun b cs ty fr hb hc=>?_).weak fun b hb=>by omega
       have hcw:=(jX hT.cm);have sU:=gU.size;have sZ:=gZ.size;rw [gN.block b (by have:=bE.size;omega) (by simp;omega),bE.block b (by omega),oV b (by omega),gZ.block b (by omega) (by simp;omega),gU.block b (by omega) (by simp;omega),oP b (by omega)]
     ·cases on with
      | none=>exact hR
      | some nq=>cases ho
 clear hY lY hR hkk hk4 h3 hl4 hs1;rintro⟨ok,k,nq,t,q,cap,st2⟩ Y ⟨hY,lY,hok,hno⟩;dsimp only at hY lY hok hno ⊢;have done:∀ {ok2:Bool} {st3:PS} {Z:Wd},ParB g l c s st3 Z->LinB w g l c k nq t q cap Z->R.1.isSome=ok2->R.2=st3->(∀ x,R.1=some x->x=⟨k,nq,t⟩/\k<=3/\nq.length<=8192/\t.name.length<=8192/\KidsT (fun b=>w.heap.size+2<b) Z q t.kids) ->
   ∃ us:List Value,us.length=5/\zo Z ⟨w.heap.size+2,0,none⟩ us/\w.heap.size+2<Z.heap.size/\SatR ((storeVar 49 ⟨w.heap.size+1,0,none⟩ (.agg us.toArray)).run PG Z) fun _ w'=>∃ us:List Value,us.length=5/\zo w' ⟨w.heap.size+1,0,none⟩ us/\zqA g l c s w R (.returned (jI [.agg us.toArray,.bool ok2])) w':=by
  intro ok2 st3 Z hZ lZ e1 e2 e3;exact⟨_,rfl,za lZ.x,hlt lZ.x,lZ.fin hZ hgw e1 e2 e3⟩
 cases ok with
 | false =>
  have hR:=hno rfl;exact brF (brF (brF (done hY lY (by rw [hR];rfl) (by rw [hR]) (fun x hx=>by rw [hR] at hx;cases hx))))
 | true =>
  obtain⟨hR,hk3,hn,htn,hkd⟩:=hok rfl;unfold zhQ at hR;refine brT ⟨_,zc (za lY.p) (i:=0) rfl,_,zc (za hY.f) (i:=1) rfl,?_⟩;have good:¬ (st2.tok.kind≠2/\st2.tok.kind≠1)->∃ us:List Value,us.length=5/\zo Y ⟨w.heap.size+2,0,none⟩ us/\w.heap.size+2<Y.heap.size/\SatR ((storeVar 49 ⟨w.heap.size+1,0,none⟩ (.agg us.toArray)).run PG Y) fun _ w'=>∃ us:List Value,us.length=5/\zo w' ⟨w.heap.size+1,0,none⟩ us/\zqA g l c s w R (.returned (jI [.agg us.toArray,.bool true])) w':=fun hc=>by
   rw [Gw hc] at hR;exact done hY lY (by rw [hR];rfl) (by rw [hR]) (fun x hx=>by rw [hR] at hx;exact⟨(Ug hx).symm,hk3,hn,htn,hkd⟩)
  refine biE (fun h1=>?_) fun h1=>?_
  ·have h1:(!decide ((st2.tok.kind:Int)=((2:Nat):Int)))=true:=h1;rw [zP] at h1;have h1:st2.tok.kind≠2:=by simpa using h1
   refine⟨_,zc (za lY.p) (i:=0) rfl,_,zc (za hY.f) (i:=1) rfl,biE (fun h2=>?_) fun h2=>?_⟩
   ·have h2:(!decide ((st2.tok.kind:Int)=((1:Nat):Int)))=true:=h2;rw [zP] at h2;have h2:st2.tok.kind≠1:=(by simpa using h2);rw [Gx ⟨h1,h2⟩] at hR;refine⟨_,zc (za lY.p) (i:=0) rfl,cmo (js hY 110) ?_⟩;rintro e Z ⟨rfl,hZ,gZ⟩;exact done hZ (lY.grown (.inl rfl) hgw gZ) (by rw [hR];rfl) (by rw [hR]) (fun x hx=>by rw [hR] at hx;cases hx)
   ·have h2:(!decide ((st2.tok.kind:Int)=((1:Nat):Int)))=false:=h2;rw [zP] at h2;have h2:st2.tok.kind=1:=(by simpa using h2);exact good fun h=>h.2 h2
  ·have h1:(!decide ((st2.tok.kind:Int)=((2:Nat):Int)))=false:=h1;rw [zP] at h1;have h1:st2.tok.kind=2:=by simpa using h1
   exact brF (good fun h=>h.1 h1)
end
abbrev zcc:=LineD×OA×Nat
def zg3:Enc zcc:=⟨fun x=>zz x.1.kind x.1.name x.1.term x.2.1 x.2.2,5,fun _=>rfl,by decide,fun a u hu=>by
 simp only [zz,zd,UF,Qw,Gs] at hu;rcases hu with rfl | rfl | rfl | rfl | rfl <;> rfl⟩
def LinK (Q:Nat->Prop) (w:Wd) (rows:List zcc):Prop:=∀ x∈rows,x.1.kind<=255/\x.1.name.length<=140737488351232/\x.1.term.name.length<=140737488351232/\KidsT Q w x.2.1 x.1.term.kids
def LinsM (Q:Nat->Prop) (w:Wd) (p:OA) (ls:List LineD):Prop:=∃ rows:List zcc,rows.map (·.1)=ls/\SlR zg3 w p rows/\LinK Q w rows/\(rows≠[]->∀ a,p=some a->Q a.block)
def zvh (r:Option (List LineD)×Nat×Int) (w:Wd) (e:Ending) (w':Wd):Prop :=
 (∃ (p:OA) (cap:Nat),e = .returned (.tuple #[.agg #[.slice p (r.1.getD []).length cap],i64 (r.2.1:Nat),i64 r.2.2])/\(r.1.getD []).length<=40/\LinsM (fun b=>w.heap.size<=b) w' p (r.1.getD []))/\Bw w w'
section
variable {g l c B:Nat} {s:Bs} {st:PS} {w w2 w3 X:Wd}
theorem Oth.low (h:Oth g l c w w2) (h1:B<=g) (h2:B<=l) (h3:B<=c) (h4:B<=w.heap.size):Below B w w2:=⟨h.os,h.tape,h.output,h.size,fun j hj=>h.block j (by omega) (by omega) (by omega) (by omega)⟩
theorem LinK.by {Q:Nat->Prop} {rows:List zcc} (hs:∀ (g:Nat) (cs:Array Value) (t:TypeId) (fr:Nat×Nat),Q g->w.heap[g]?=some (.cells cs t fr)->w2.heap[g]?=w.heap[g]?) (h:LinK Q w rows):LinK Q w2 rows :=
 fun x hx=>⟨(h x hx).1,(h x hx).2.1,(h x hx).2.2.1,(h x hx).2.2.2.by hs⟩
theorem LinK.weak {Q Q':Nat->Prop} {rows:List zcc} (h:LinK Q w rows) (hb:∀ b,Q b->Q' b):LinK Q' w rows :=
 fun x hx=>⟨(h x hx).1,(h x hx).2.1,(h x hx).2.2.1,(h x hx).2.2.2.weak hb⟩
theorem LinK.there {Q:Nat->Prop} {rows:List zcc} (h:LinK Q w rows):LinK (fun b=>Q b/\b<w.heap.size) w rows :=
 fun x hx=>⟨(h x hx).1,(h x hx).2.1,(h x hx).2.2.1,(h x hx).2.2.2.there⟩
theorem LinsM.by {Q:Nat->Prop} {p:OA} {ls:List LineD} (hs:∀ (g:Nat) (cs:Array Value) (t:TypeId) (fr:Nat×Nat),Q g->w.heap[g]?=some (.cells cs t fr)->w2.heap[g]?=w.heap[g]?) (h:LinsM Q w p ls):LinsM Q w2 p ls:=by
 obtain⟨rows,e1,e2,e3,e4⟩:=h;refine⟨rows,e1,?_,e3.by hs,e4⟩;rcases e2 with e2 | ⟨b,o,hp,hb,hc⟩
 ·exact .inl e2
 ·by_cases h0:rows=[]
  ·exact .inl h0
  ·have hl:0<rows.length:=List.length_pos_iff.2 h0;have hq:=e4 h0 _ hp;have h1:=hc 0 hl 0 _ rfl;unfold World.cell? at h1
   split at h1
   ·rename_i cs t fr hblk;have hblk:w.heap[b]?=some (.cells cs t fr):=hblk;have sm:=hs b cs t fr hq hblk;exact .inr ⟨b,o,hp,hlt (sm.trans hblk),fun i hi=>zJ sm (hc i hi)⟩
   ·cases h1
theorem LinsM.weak {Q Q':Nat->Prop} {p:OA} {ls:List LineD} (h:LinsM Q w p ls) (hb:∀ b,Q b->Q' b):LinsM Q' w p ls:=by
 obtain⟨rows,e1,e2,e3,e4⟩:=h;exact⟨rows,e1,e2,e3.weak hb,fun h0 a ha=>hb _ (e4 h0 a ha)⟩
theorem LinsM.below {Q:Nat->Prop} {p:OA} {ls:List LineD} (h:LinsM Q w p ls) (b:Bw w w2):LinsM Q w2 p ls:=h.by fun g cs t fr _ hc=>b.block g (hlt hc)
theorem LinsM.all {Q:Nat->Prop} {p:OA} {ls:List LineD} (h:LinsM Q w p ls):LinsM (fun _=>True) w p ls:=h.weak fun _ _=>trivial
theorem LinK.nil {Q:Nat->Prop}:LinK Q w []:=fun x hx=>by cases hx
theorem LinK.snoc {Q:Nat->Prop} {rows:List zcc} {x:zcc} (h:LinK Q w rows) (hx:LinK Q w [x]):LinK Q w (rows++[x]):=fun y hy=>by
 rcases QU.1 hy with hy | hy
 ·exact h y hy
 ·exact hx y hy
theorem zcO (hg:GlobK w) (s:Bs) (hs:s.length<=140737488351232):Calls PG 27 #[zn s] w (zvh (zV s) w):=by
 refine z6 61 [zn s] (.c .p (.s .p (.s .p (.c .p .p)))) Tryz.func27 ?_;obtain⟨R,hR⟩:=nm (zV s);rw [<- hR];unfold zV at hR;have hgl:=hg.lt;refine⟨Unit,fun _=>⟨[(0,zn s),(2,At0 w.heap.size)],[]⟩,fun _ X=>X.heap[w.heap.size]?=some (.cells #[.slice none 0 0] 47 (0,0))/\Bw w X/\X.heap.size=w.heap.size+1,⟨(),(cvE rfl rfl),zA w _,zba _ _,wz _ _⟩,?_⟩;rintro _ W1 ⟨f1,b1,n1⟩;refine biE (fun h1=>?_) fun h1=>?_
 ·have h1:(8192:Int)<(s.length:Int):=dT h1;rw [Gx (by omega)] at hR;exact⟨[.slice none 0 0],rfl,zy (v := .agg #[.slice none 0 0]) k47 f1 rfl rfl rfl ⟨[.slice none 0 0],rfl,za (zq f1),⟨none,0,by rw [hR];rfl,by rw [hR];exact Ge _,[],by rw [hR];rfl,.nil,.nil,fun h=>Gy rfl h⟩,zl b1 (Gc _) _⟩⟩
 have h1:¬ (8192:Int)<(s.length:Int):=dF h1;have hlen:s.length<=8192:=by omega
 rw [Gw (by omega)] at hR;refine⟨Unit,fun _=>⟨[(2,At0 w.heap.size),(5,At0 (w.heap.size+1)),(6,At0 (w.heap.size+4))],[]⟩,fun _ Y=>ParB (w.heap.size+4) (w.heap.size+2) (w.heap.size+3) s ⟨⟨0,[],0⟩,fun _=>false,fun _=>false,0,0,0⟩ Y/\Y.heap[w.heap.size]?=some (.cells #[.slice none 0 0] 47 (0,0))/\Y.heap[w.heap.size+1]?=some (.cells #[.slice none 0 0] 47 (0,0))/\Bw w Y,?_,?_⟩
 ·obtain⟨W2,e2⟩:=nm (W1.alloc (.cells #[.slice none 0 0] 47));have n2:W2.heap.size=w.heap.size+2:=by rw [e2,wz,n1]
  have f2:W2.heap[w.heap.size+1]?=some (.cells #[.slice none 0 0] 47 (0,0)):=by rw [e2,<- n1];exact zA W1 _
  have b2:Bw W1 W2:=by rw [e2];exact zba _ _
  rw [<- e2,<- n1];refine⟨Value.map (some W2.heap.size),W2.alloc (.map #[] 0),rfl,?_⟩;have m3:MapF (key:=zbq) (W2.alloc (.map #[] 0)) W2.heap.size (fun (_:Bs)=>none):=MapF.new;obtain⟨W3,e3⟩:=nm (W2.alloc (.map #[] 0));have n3:W3.heap.size=w.heap.size+3:=by rw [e3,wz,n2]
  have b3:Bw W2 W3:=by rw [e3];exact zba _ _
  rw [<- e3] at m3 ⊢;refine⟨Value.map (some W3.heap.size),W3.alloc (.map #[] 0),rfl,?_⟩;have m4:MapF (key:=zbq) (W3.alloc (.map #[] 0)) W3.heap.size (fun (_:Bs)=>none):=MapF.new;obtain⟨W4,e4⟩:=nm (W3.alloc (.map #[] 0));have n4:W4.heap.size=w.heap.size+4:=by rw [e4,wz,n3]
  have b4:Bw W3 W4:=by rw [e4];exact zba _ _
  rw [<- e4] at m4 ⊢;refine⟨zbC s W2.heap.size W3.heap.size ⟨⟨0,[],0⟩,fun _=>false,fun _=>false,0,0,0⟩,rfl,?_⟩;have f5:=zA W4 (.cells (zbC s W2.heap.size W3.heap.size ⟨⟨0,[],0⟩,fun _=>false,fun _=>false,0,0,0⟩).toArray 136);have b5:=zba W4 (.cells (zbC s W2.heap.size W3.heap.size ⟨⟨0,[],0⟩,fun _=>false,fun _=>false,0,0,0⟩).toArray 136);refine⟨(),⟨.cons rfl (.cons rfl (.cons ?_ .nil)),rfl⟩,?_⟩
  ·show some (At0 W4.heap.size)=_;rw [n4]
  rw [n2,n3] at f5 b5;show _/\_;rw [n2,n3];rw [n4] at f5;have bAll:=zst b1 (zst b2 (zst b3 (zst b4 b5)));have em:(fun (_:Bs)=>(none:Option Value))=zeL (fun _=>false):=rfl;rw [em,n2] at m3;rw [em,n3] at m4;refine⟨⟨f5,?_,?_,⟨by omega,by omega,by omega⟩,hg.below bAll,hlen,Ge _,Ge _,Ge _⟩,?_,?_,bAll⟩
  ·exact (m3.below b4).below b5
  ·exact m4.below b5
  ·exact zb b5 (zb b4 (zb b3 (zb b2 f1)))
  ·rw [<- n1] at f2;exact zb b5 (zb b4 (zb b3 f2))
 clear f1 b1 n1 W1;rintro _ Y ⟨hY,fr,fc,bY⟩;dsimp only;refine cmo (zbp hY) ?_;have es:nx s ⟨⟨0,[],0⟩,fun _=>false,fun _=>false,0,0,0⟩=zfc s:=rfl;rw [es];rintro e Z ⟨rfl,hZ,gZ⟩;have frZ:=(gZ.block _ (hlt fr) (by simp)).trans fr;have fcZ:=(gZ.block _ (hlt fc) (by simp)).trans fc;have bZ:Bw w Z:=bY.trans (zm gZ bY.size (by omega));refine⟨List zcc×OA×Nat×PS×Nat,fun y=>⟨[(2,At0 w.heap.size),(5,At0 (w.heap.size+1)),(6,At0 (w.heap.size+4))],[]⟩,
  fun y Y=>ParB (w.heap.size+4) (w.heap.size+2) (w.heap.size+3) s y.2.2.2.1 Y/\Y.heap[w.heap.size]?=some (.cells #[.slice none 0 0] 47 (0,0))/\Y.heap[w.heap.size+1]?=some (.cells #[.slice y.2.1 y.1.length y.2.2.1] 47 (0,0))/\Bw w Y /\
   OwnS zg3 49 (w.heap.size+5) Y y.2.1 y.2.2.1 y.1/\LinK (fun b=>w.heap.size+4<b/\∀ a,y.2.1=some a->a.block≠b) Y y.1/\y.1.length<=40/\(∃ i,y.2.2.2.1.tok=zr s i) /\
   R=jS (zr s) 40000 y.2.2.2.2 (y.1.map (·.1)) y.2.2.2.1/\s.length-y.2.2.2.1.tok.at_+1<=y.2.2.2.2,
  fun y=>y.2.2.2.2,([],none,0,zfc s,10000),(cvE rfl rfl),?_,?_⟩
 ·exact⟨hZ,frZ,fcZ,bZ,.nil,.nil,Ge _,⟨0,rfl⟩,hR,by show s.length-(zfc s).tok.at_+1<=10000;omega⟩
 clear hZ frZ fcZ bZ gZ hY fr fc bY es hR Z Y;rintro⟨rows,p,cap,st,n⟩ Y ⟨hY,fr,fc,bY,ho,hk,h40,⟨i,hi⟩,hR,hn⟩;dsimp only at hY fc ho hk h40 hi hR hn ⊢;obtain⟨n',rfl⟩:∃ n',n=n'+1:=⟨n-1,by omega⟩;rw [jS] at hR;have sY:w.heap.size+4<Y.heap.size:=hY.lt;have hps:=hY.pos;refine⟨_,zc (za hY.f) (i:=1) rfl,biE (fun h2=>?_) fun h2=>?_⟩
 ·have h2:(!decide ((st.tok.kind:Int)=((1:Nat):Int)))=true:=h2;rw [zP] at h2;have h2:st.tok.kind≠1:=by simpa using h2
  rw [Gw h2] at hR;refine⟨_,zc (za hY.f) (i:=1) rfl,biE (fun h3=>?_) fun h3=>?_⟩
  ·
   have h3:st.tok.kind=2:=dT ((zP (b:=2)).symm.trans h3);rw [Gx h3] at hR;have ht:1<=st.tok.text.length:=by rw [hi] at h3 ⊢;exact zh4 h3
   refine cmo (zbp hY) ?_;rintro e Z ⟨rfl,hZ,gZ⟩;have hx:=zii s st;refine⟨(rows,p,cap,nx s st,n'),(cvE rfl rfl),⟨hZ,(gZ.block _ (hlt fr) (by simp)).trans fr,(gZ.block _ (hlt fc) (by simp)).trans fc,bY.trans (zm gZ bY.size (by omega)),?_,?_,h40,⟨_,rfl⟩,hR,?_⟩,QA _⟩
   ·exact ho.kept gZ fun gg hg e=>by have h5:w.heap.size+5<=gg:=(zx ho hg).1;simp at e;omega
   ·exact (hk.there.by fun b cs ty fr hb hc=>gZ.block b hb.2 (by simp;omega)).weak fun b hb=>hb.1
   ·have:(nx s st).tok.at_=(zN (zr s) st).tok.at_:=rfl;dsimp only;omega
  ·
   have h3:st.tok.kind≠2:=dF ((zP (b:=2)).symm.trans h3);rw [Gw h3] at hR;refine⟨_,zc (za fc) (i:=0) rfl,cmo (zrn rows.length hY) ?_⟩;rintro e Z ⟨k,nq,t,q,cp,rfl,hl,hZ,oZ⟩;have hm:=zmO (s:=s) 40000 rows.length st;have hon:∀ (x:LineD) (st2:PS),zak (zr s) 40000 rows.length st=(some x,st2)->st.tok.at_+1<=st2.tok.at_:=fun x st2=>zmR;have hmy:∀ (x:LineD) (st2:PS),zak (zr s) 40000 rows.length st=(some x,st2)->rows.length<40:=fun x st2=>znX;rw [QQ] at hR;rcases hln:zak (zr s) 40000 rows.length st with ⟨r1,st2⟩;rw [hln] at hl hZ hm hR hon hmy;dsimp only at hl hZ hm hR hon hmy ⊢;have bZ:Bw w Z:=bY.trans (oZ.low (by omega) (by omega) (by omega) (by omega));have keep:∀ {j:Nat} {o:Obj},Y.heap[j]?=some o->j≠w.heap.size+4->j≠w.heap.size+2->j≠w.heap.size+3->Z.heap[j]?=some o:=fun {j o} h h1 h2 h3=>(oZ.block j (hlt h) h1 h2 h3).trans h;have frZ:=keep fr (by omega) (by omega) (by omega);have fcZ:=keep fc (by omega) (by omega) (by omega);have sZ:=oZ.size;refine zk (X:=Z) (v := .agg (zz k nq t q cp).toArray) k49 rfl rfl rfl fun U hbU fU sU=>?_;have hU:=hZ.below hbU;have bU:=zst bZ hbU;have frU:=zb hbU frZ;have fcU:=zb hbU fcZ
   cases r1 with
   | none =>
    refine brT ?_;have bE:=(Gh U.heap.size U).drew;have hE:=hU.below bE;have fE:=zb bE frU;have hE2:(U.drew.setRow w.heap.size #[.slice none 0 0]).heap[w.heap.size+4]?=some (.cells (zbC s (w.heap.size+2) (w.heap.size+3) st2).toArray 136 (0,0)):=(zt (by omega)).trans hE.f;have done:∃ us:List Value,us.length=1/\zo (U.drew.setRow w.heap.size #[.slice none 0 0]) ⟨w.heap.size,0,none⟩ us/\zvh R w (.returned (jI [.agg us.toArray,i64 (st2.tok.at_:Nat),i64 st2.e])) (U.drew.setRow w.heap.size #[.slice none 0 0]) :=
     ⟨[.slice none 0 0],rfl,za (zq fE),⟨none,0,by rw [hR];rfl,by rw [hR];exact Ge _,[],by rw [hR];rfl,.nil,.nil,fun h=>Gy rfl h⟩,zl ((zst bU bE)) (Gc _) _⟩
    refine DrawE.treeR [10] (.op 0 (.op 1 (.op 2 (.op 3 (.op 4 (.op 6 (.op 7 (.op 8 (.alt (.op 10 (.alt (.op 5 (.op 9 (.op 11 (.op 12 (.nil))))) (.op 9 (.op 5 (.op 11 (.op 12 (.nil))))))) (.alt (.op 5 (.alt (.op 10 (.op 9 (.op 11 (.op 12 (.nil))))) (.op 9 (.op 10 (.op 11 (.op 12 (.nil))))))) (.op 9 (.alt (.op 10 (.op 5 (.op 11 (.op 12 (.nil))))) (.op 5 (.op 10 (.op 11 (.op 12 (.nil))))))))))))))))) (by kernel_rfl) ⟨[.slice none 0 0],rfl,Gm ?_ (Gm ?_ ?_)⟩
    ·refine zy (v := .agg #[.slice none 0 0]) k47 fE rfl rfl rfl (Gm ?_ ?_)
     ·exact⟨_,zc (za hE2) (i:=3) rfl,_,zc (za hE2) (i:=8) rfl,done⟩
     ·exact⟨_,zc (za hE2) (i:=8) rfl,_,zc (za hE2) (i:=3) rfl,done⟩
    ·refine⟨_,zc (za hE.f) (i:=3) rfl,Gm ?_ ?_⟩
     ·exact zy (v := .agg #[.slice none 0 0]) k47 fE rfl rfl rfl ⟨_,zc (za hE2) (i:=8) rfl,done⟩
     ·exact⟨_,zc (za hE.f) (i:=8) rfl,zy (v := .agg #[.slice none 0 0]) k47 fE rfl rfl rfl done⟩
    ·refine⟨_,zc (za hE.f) (i:=8) rfl,Gm ?_ ?_⟩
     ·exact zy (v := .agg #[.slice none 0 0]) k47 fE rfl rfl rfl ⟨_,zc (za hE2) (i:=3) rfl,done⟩
     ·exact⟨_,zc (za hE.f) (i:=3) rfl,zy (v := .agg #[.slice none 0 0]) k47 fE rfl rfl rfl done⟩
   | some x =>
    obtain⟨rfl,hk3,hnl,htl,hkd⟩:=hl x rfl;refine brF ⟨_,zc (za fcU) (i:=0) rfl,_,rfl,za fU,hlt fU,⟨by decide,by decide,rfl⟩,zz k nq t q cp,rfl,?_⟩;obtain⟨V,hV⟩:=nm (U.alloc (.cells (zz k nq t q cp).toArray 49));have hbV:Bw U V:=(by rw [hV];exact zba _ _);have sV:V.heap.size=U.heap.size+1:=(by rw [hV];exact wz _ _);have cV:zo V ⟨U.heap.size,0,none⟩ ([((⟨k,nq,t⟩,q,cp):zcc)].flatMap zg3.enc):=(by rw [hV];exact qF zg3 ((⟨k,nq,t⟩,q,cp):zcc));have bV:=zst bU hbV;have hVp:=hU.below hbV;have hoV:OwnS zg3 49 (w.heap.size+5) V p cap rows:=((ho.same fun a ha=>oZ.block a.block (zx ho ha).2.1 (by have:=(zx ho ha).1;omega) (by have:=(zx ho ha).1;omega) (by have:=(zx ho ha).1;omega)).below hbU).below hbV;rw [<- hV];refine ji (E:=zg3) (news:=[((⟨k,nq,t⟩,q,cp):zcc)]) (m:=1) Tryz.underlying45 k49 rfl rfl rfl hoV rfl cV (by omega) (by omega) (by show (rows.length+1)*72<=140737488355328;omega) fun p2 c2 T hoT gT bT hat=>?_;have ownb:∀ {j:Nat},j<w.heap.size+5->(Value.slice p rows.length cap).ownBlock≠some j:=fun {j} hj e=>by
     have:=(QF hoV j e).1;omega
    have tk:∀ {j:Nat} {o:Obj},V.heap[j]?=some o->j<w.heap.size+5->T.heap[j]?=some o:=fun {j o} h hj=>(gT.block j (hlt h) (ownb hj).symm).trans h;have hT:ParB (w.heap.size+4) (w.heap.size+2) (w.heap.size+3) s st2 T:=hVp.upto ⟨bT.os,bT.tape,bT.output,bT.size,fun j hj=>gT.block j (by omega) (ownb (by omega)).symm⟩;have fcT:=tk (zb hbV fcU) (by omega);have frT:=tk (zb hbV frU) (by omega);refine zy (v := .slice p2 (rows++[((⟨k,nq,t⟩,q,cp):zcc)]).length c2) k45 fcT rfl rfl rfl ?_;have bS:=zl (B:=w.heap.size) (Gh _ T) (Nat.le_succ w.heap.size) (Value.slice p2 (rows++[((⟨k,nq,t⟩,q,cp):zcc)]).length c2).cells;refine⟨(rows++[((⟨k,nq,t⟩,q,cp):zcc)],p2,c2,st2,n'),(cvE rfl rfl),⟨?_,(zt (by omega)).trans frT,zq fcT,(bV.trans (bT.mono (by omega))).trans bS,?_,?_,?_,?_,?_,?_⟩,QA _⟩
    ·
     have og:=hT.ord;have hgT:=hT.glob;have sm:∀ {j},j≠w.heap.size+1->(T.setRow (w.heap.size+1) (Value.slice p2 (rows++[((⟨k,nq,t⟩,q,cp):zcc)]).length c2).cells).heap[j]?=T.heap[j]?:=fun {j} hj=>zt hj;exact⟨(sm (by omega)).trans hT.f,hT.lm.same (sm (by omega)),hT.cm.same (sm (by omega)),og,hgT.grown (g:=w.heap.size+1) (by omega) (qq T _ _),hT.len,hT.pos,hT.nod,hT.dep⟩
    ·refine hoT.kept (qq T (w.heap.size+1) _) fun gg hg e=>?_;have h5:w.heap.size+5<=gg:=(zx hoT hg).1;simp at e;omega
    ·have other:∀ {b:Nat} {cs:Array Value} {ty:TypeId} {fr:Nat×Nat},w.heap.size+4<b->(∀ a,p=some a->a.block≠b)->b<Z.heap.size->(T.setRow (w.heap.size+1) (Value.slice p2 (rows++[((⟨k,nq,t⟩,q,cp):zcc)]).length c2).cells).heap[b]?=Z.heap[b]?/\∀ a,p2=some a->a.block≠b:=by
      intro b cs ty fr h1 h2 h3;refine⟨?_,fun a ha=>?_⟩
      ·rw [zt (by omega),gT.block b (by omega) ?_,hbV.block b (by omega),hbU.block b h3];intro e;rcases p with _ | a
       ·simp [Value.ownBlock] at e
       ·rcases hoV.inv with ⟨h0,_⟩ | ⟨gg,_,h0,_⟩
        ·cases h0
        ·cases h0
         simp [Value.ownBlock] at e;exact h2 _ rfl e.symm
      ·rcases hat a ha with h4 | h4
       ·exact h2 a h4
       ·omega
     refine LinK.snoc ?_ ?_
     ·have k1:LinK (fun b=>(w.heap.size+4<b/\∀ a,p=some a->a.block≠b)/\b<Y.heap.size) Y rows:=hk.there;have k2:LinK (fun b=>(w.heap.size+4<b/\∀ a,p=some a->a.block≠b)/\b<Y.heap.size) Z rows:=k1.by fun b cs ty fr hb hc=>oZ.block b hb.2 (by omega) (by omega) (by omega)
      refine (k2.by fun b cs ty fr hb hc=>(other (cs:=cs) (ty:=ty) (fr:=fr) hb.1.1 hb.1.2 (by omega)).1).weak fun b hb=>⟨hb.1.1,(other (cs := #[]) (ty:=0) (fr:=(0,0)) hb.1.1 hb.1.2 (by omega)).2⟩
     ·intro x hx;obtain rfl:=KA.1 hx;have pl:∀ {b:Nat},Y.heap.size<=b->∀ a,p=some a->a.block≠b:=fun {b} hb a ha e=>by have:=(zx ho ha).2.1;omega
      have k1:KidsT (fun b=>Y.heap.size<=b/\b<Z.heap.size) Z q t.kids:=hkd.there;refine⟨by show k<=255;omega,by show nq.length<=_;omega,by show t.name.length<=_;omega,?_⟩;exact (k1.by fun b cs ty fr hb hc=>(other (cs:=cs) (ty:=ty) (fr:=fr) (by omega) (pl hb.1) hb.2).1).weak fun b hb=>⟨by omega,(other (cs := #[]) (ty:=0) (fr:=(0,0)) (by omega) (pl hb.1) hb.2).2⟩
    ·dsimp only;rw [lap];have hlt:=hmy _ _ rfl;show rows.length+1<=40;omega
    ·rcases hm.2.2 with e | e
     ·exact⟨i,e.trans hi⟩
     ·exact e
    ·dsimp only;rw [hR,QT];rfl
    ·have:=hon _ _ rfl;have hp2:=hZ.pos;dsimp only;omega
 ·have h2:(!decide ((st.tok.kind:Int)=((1:Nat):Int)))=false:=h2;rw [zP] at h2;have h2:st.tok.kind=1:=by simpa using h2
  rw [Gx h2] at hR;refine⟨_,rfl,za fc,hlt fc,zy (v := .agg #[.slice p rows.length cap]) k47 fr rfl rfl rfl ?_⟩;have ok2:OwnS zg3 49 (w.heap.size+5) (Y.setRow w.heap.size (Value.agg #[.slice p rows.length cap]).cells) p cap rows:=ho.kept (qq Y w.heap.size _) fun gg hg e=>by
   have h5:w.heap.size+5<=gg:=(zx ho hg).1;simp at e;omega
  refine⟨[.slice p rows.length cap],rfl,za (zq fr),⟨p,cap,by rw [hR];show _=Ending.returned (.tuple #[.agg #[.slice p (rows.map (·.1)).length cap],i64 0,i64 0]);rw [QQ];rfl,by rw [hR];show (rows.map (·.1)).length<=40;rw [QQ];exact h40,rows,by rw [hR];rfl,ok2.row,?_,fun _ a ha=>by have:=(zx ok2 ha).1;omega⟩,zl bY (Gc _) _⟩;exact (hk.by fun b cs ty fr hb hc=>zt (by omega)).weak fun b hb=>by omega
end
end Go.Proofs.YtnadlhpkpnfmbaaGreatDoor
namespace Go.Proofs.YtnadlhpkpnfmbaaGreatDoor
open Go.Vc
mutual
def nodesT:Trm->Nat
 | .mk _ _ l=>1+nodesK l
def nodesK:List Trm->Nat
 | []=>0
 | t::r=>nodesT t+nodesK r
end
inductive VT:Trm->Prop
 | mk (k:UInt8) (nq:Bs) (kids:List Trm) (hk:k.toNat<10) (hl:(kids.length:Int)=j3 k.toNat) (hn:nq.length<=16) (hv:∀ x∈kids,VT x):VT (.mk k nq kids)
theorem VT.inv {k:UInt8} {nq:Bs} {kids:List Trm} (h:VT (.mk k nq kids)):k.toNat<10/\(kids.length:Int)=j3 k.toNat/\nq.length<=16/\∀ x∈kids,VT x:=by
 cases h with
 | mk _ _ _ h1 h2 h3 h4=>exact⟨h1,h2,h3,h4⟩
theorem zo7 {s:Bs} (h:jH s=true):s.length<=16:=by
 unfold jH at h;rw [Ql] at h;obtain⟨w,hw,he⟩:=h;have he:=dT he;subst he
 revert hw
 have:∀ w∈[[112,111],[114,102],[99,111],[102,114],[114,109,119],[100,97,116,97],[99,116,114,108],[108,111,99],[105,100],[101,120,116],[105,110,116]],(w:Bs).length<=16:=by decide
 exact this _
theorem zoV {s:Bs} (h:zfd s=true):s.length<=16:=by
 unfold zfd at h;rw [Ql] at h;obtain⟨w,hw,he⟩:=h;have he:=dT he;subst he
 revert hw
 have:∀ w∈[[82],[87],[70],[77],[65],[76],[88],[70,70],[70,76],[70,83],[73]],(w:Bs).length<=16:=by decide
 exact this _
theorem ze1 (lets:Bs->Bool) (n:Nat):∀ t,n<=(chkT lets n t).2/\((chkT lets n t).1=true->(chkT lets n t).2<=400):=fun t=>by
 cases t with
 | mk k nq kids=>exact go n k nq kids
where
 go (n:Nat) (k:UInt8) (nq:Bs):∀ kids,n<=(chkT lets n (.mk k nq kids)).2/\((chkT lets n (.mk k nq kids)).1=true->(chkT lets n (.mk k nq kids)).2<=400):=fun kids=>by
  rw [chkT]
  split
  ·exact⟨by show n<=n+1;omega,fun h=>by cases h⟩
  ·split
   ·exact⟨by show n<=n+1;omega,fun _=>by show n+1<=400;omega⟩
   ·split
    ·exact⟨by show n<=n+1;omega,fun _=>by show n+1<=400;omega⟩
    ·split
     ·exact⟨by show n<=n+1;omega,fun h=>by cases h⟩
     ·have:=goL (n+1) kids (by omega);exact⟨by omega,this.2⟩
 goL (n:Nat):∀ kids,n<=400->n<=(chkL lets n kids).2/\((chkL lets n kids).1=true->(chkL lets n kids).2<=400)
  | [],h=>by rw [chkL];exact⟨Gc _,fun _=>h⟩
  | .mk k nq l::r,h=>by
   rw [chkL];have:=go n k nq l
   split <;> rename_i n2 e <;> rw [e] at this
   ·exact⟨this.1,fun h=>by cases h⟩
   ·have h2:=goL n2 r (this.2 rfl);have h3:=this.1;exact⟨by dsimp only at h3;omega,h2.2⟩
theorem zfA (lets:Bs->Bool) (hl:∀ s,lets s=true->s.length<=16):∀ t n n',chkT lets n t=(true,n')->VT t/\n'=n+nodesT t
 | .mk k nq kids,n,n',h=>by
  rw [chkT] at h
  split at h
  ·cases h
  ·rename_i hc;have h1:k.toNat<10:=by
    refine Jn fun hn=>hc (.inr (.inl (by omega)))
   have h2:(kids.length:Int)=j3 k.toNat:=by
    refine Jn fun hn=>hc (.inr (.inr hn))
   split at h
   ·rename_i hk;have hk0:kids=[]:=by
     rw [hk] at h2;have:(kids.length:Int)=0:=h2;exact Jf (by omega)
    subst hk0;have h:=Gf h;have hnm:nq.length<=16:=by
     have:=h.1;rw [QI] at this;rcases this with h | h
     ·exact zo7 h
     ·exact hl _ h
    exact⟨.mk _ _ _ h1 h2 hnm (fun x hx=>by cases hx),by rw [<- h.2,nodesT,nodesK]⟩
   ·split at h
    ·rename_i hk;have hk0:kids=[]:=by
      rw [hk] at h2;have:(kids.length:Int)=0:=h2;exact Jf (by omega)
     subst hk0;have h:=Gf h;exact⟨.mk _ _ _ h1 h2 (zoV h.1) (fun x hx=>by cases hx),by rw [<- h.2,nodesT,nodesK]⟩
    ·split at h
     ·cases h
     ·rename_i hnm;have hnm:nq=[]:=Jn hnm;obtain⟨hv,hn⟩:=go kids (n+1) n' h;exact⟨.mk _ _ _ h1 h2 (by rw [hnm];exact Ge _) hv,by rw [hn,nodesT];omega⟩
where
 go:∀ (l:List Trm) n n',chkL lets n l=(true,n')->(∀ x∈l,VT x)/\n'=n+nodesK l
  | [],n,n',h=>by
   rw [chkL] at h;refine⟨fun x hx=>?_,?_⟩
   ·cases hx
   ·rw [nodesK];exact (Gf h).2.symm
  | t::r,n,n',h=>by
   rw [chkL] at h
   split at h
   ·cases h
   ·rename_i n2 e;obtain⟨h1,h2⟩:=zfA lets hl t n n2 e;obtain⟨h3,h4⟩:=go r n2 n' h;refine⟨fun x hx=>?_,by rw [h4,h2,nodesK];omega⟩;rcases UF.1 hx with rfl | hx
    ·exact h1
    ·exact h3 x hx
def ztZ (w w2:Pr) (n:Nat):Prop:=w2.text.length<=w.text.length+24*n/\w2.deep=w.deep/\w2.most<=max w.most (w.deep+n)/\w.text.length<=w2.text.length
theorem zaT:∀ t:Trm,1<=nodesT t
 | .mk _ _ _=>by rw [nodesT];omega
theorem qx (w:Pr) (s:Bs):(ql w s).text.length=w.text.length+s.length:=lap
theorem zeo (k:Nat):(za2 k).length<=3:=by
 unfold za2;rcases Nat.lt_or_ge k 10 with h | h
 ·have:∀ j:Fin 10,(([[],[],[124],[38],[92],[59],[94,45,49],[43],[42],[]]:List Bs).getD j.1 []).length<=3:=by decide
  exact this ⟨k,h⟩
 ·rw [gDe,JJ (by simpa using h)];decide
theorem zeT {t:Trm} (ht:∀ w,ztZ w (prT w t) (nodesT t)) (w:Pr) (least:Nat) (r:List Trm):(prHead w least (t::r)).text.length<=w.text.length+24*nodesT t+2/\(prHead w least (t::r)).deep=w.deep/\(prHead w least (t::r)).most<=max w.most (w.deep+nodesT t+1)/\w.text.length<=(prHead w least (t::r)).text.length:=by
 rw [prHead]
 split
 ·have:=ht w;exact⟨by have:=this.1;omega,this.2.1,by have:=this.2.2.1;omega,this.2.2.2⟩
 ·have:=ht (ql { w with deep:=w.deep+1,most:=max w.most (w.deep+1) } [40]);obtain⟨h1,h2,h3,h4⟩:=this;rw [qx] at h1 h4;have e1:([40]:Bs).length=1:=rfl;have e2:([41]:Bs).length=1:=rfl;dsimp only [ql] at h1 h2 h3 h4 ⊢;refine⟨?_,?_,?_,?_⟩
  ·rw [lap];omega
  ·omega
  ·omega
  ·rw [lap];omega
theorem zcz:∀ t,VT t->∀ w,ztZ w (prT w t) (nodesT t)
 | .mk k nq kids,hv,w=>by
  obtain⟨hk,hl,hn,hkv⟩:=hv.inv;have ih:∀ x∈kids,∀ w,ztZ w (prT w x) (nodesT x):=fun x hx=>zcz x (hkv x hx);rw [prT]
  split
  ·rw [nodesT];refine⟨by rw [qx];omega,rfl,by show w.most<=_;omega,by rw [qx];omega⟩
  ·split
   ·rw [nodesT];refine⟨by simp only [qx,Qt,QR];omega,rfl,by show w.most<=_;omega,by simp only [qx];omega⟩
   ·rename_i hk1 hk9
    split
    ·rename_i h68;have hl1:kids.length=1:=by
      rcases h68 with rfl | rfl | rfl
      all_goals
       have:(kids.length:Int)=1:=hl;omega
     match kids,hl1,ih with
     | [a],_,ih =>
      have h1:=zeT (ih a Kz) w 5 [];have h2:=zeo k.toNat;rw [nodesT,nodesK,nodesK];refine⟨by rw [qx];omega,h1.2.1,by have:=h1.2.2.1;show (prHead w 5 [a]).most<=_;omega,by rw [qx];omega⟩
    ·rename_i h68;have hl2:kids.length=2:=by
      have key:∀ j:Fin 10,j.1≠1->j.1≠9->j.1≠6->j.1≠7->j.1≠8->j3 j.1=2\/j3 j.1 = -1:=(by decide);have nk:∀ (m:UInt8),k≠m->k.toNat≠m.toNat:=fun m h e=>h (Uh.1 e);rcases key ⟨k.toNat,hk⟩ (nk 1 hk1) (nk 9 hk9) (nk 6 (fun e=>h68 (.inl e))) (nk 7 (fun e=>h68 (.inr (.inl e)))) (nk 8 (fun e=>h68 (.inr (.inr e)))) with h | h
      ·have h:j3 k.toNat=2:=h;omega
      ·have h:j3 k.toNat = -1:=h;omega
     match kids,hl2,ih with
     | [a,b],_,ih =>
      have h1:=zeT (ih a Kz) w (qI k.toNat) [b];have h2:=zeo k.toNat;have h3:=zeT (ih b (JW _ Kz)) (ql (ql (ql (prHead w (qI k.toNat) [a,b]) [32]) (za2 k.toNat)) [32]) (qI k.toNat+1) [];rw [nodesT,nodesK,nodesK,nodesK];rw [prTail];simp only [qx,Qt,QR] at h3;obtain⟨a1,a2,a3,a4⟩:=h1;obtain⟨b1,b2,b3,b4⟩:=h3;have na:=zaT a;have nb:=zaT b;dsimp only [ql] at b2 b3;refine⟨by omega,by dsimp only [ql];omega,?_,by omega⟩;dsimp only [ql];omega
end Go.Proofs.YtnadlhpkpnfmbaaGreatDoor
namespace Go.Proofs.YtnadlhpkpnfmbaaGreatDoor
open Go.Vc Go.RowKit Go.Sei
theorem zpH (s:Bs) (hs:s.length<=140737488351232) (w:Wd) (hg:GlobK w):Calls PG 144 #[zn s] w fun e w'=>e = .returned (.bool (jh s))/\w=w':=by
 refine zD 27 [zn s] Tryz.func144 ?_;unfold jh;refine⟨_,fun w=>zdu _ _ s [] w,?_⟩;refine biE (fun h=>?_) fun h=>?_
 ·have h:(!decide (s=[]))=true:=h;have h0:s≠[]:=by simpa using h
  have hp:0<s.length:=List.length_pos_iff.2 h0;rw [Ut h0,Uz];refine biE (fun h1=>?_) fun h1=>?_
  ·have h1:(s.length:Int)<=16:=dT h1;rw [Ut (p:=s.length<=16) (by omega),Uz];refine⟨0,rfl,hp,s[0],zdU hp,?_⟩;have e0:s.getD 0 0=s[0]:=by rw [gDe,gE hp];rfl
   rw [e0];refine cmo (zgY s[0] w) ?_;rintro e _ ⟨rfl,rfl⟩;refine biE (fun h2=>?_) fun h2=>?_
   ·have h2:jq s[0]=true:=h2;rw [h2,Uz];refine cmo (zh5 s 0 (Ge _) hs w) ?_;rintro e _ ⟨rfl,rfl⟩;have hd:decide (((qJ z8 s 0:Nat):Int)=(s.length:Int))=decide (qJ z8 s 0=s.length):=zP;refine biE (fun h3=>?_) fun h3=>?_
    ·have h3:decide (qJ z8 s 0=s.length)=true:=hd.symm.trans h3;rw [h3,Uz];refine cmo (zmV s w hg) ?_;rintro e _ ⟨rfl,rfl⟩;exact⟨rfl,rfl⟩
    ·have h3:decide (qJ z8 s 0=s.length)=false:=hd.symm.trans h3;refine⟨rb ?_,rfl⟩;rw [h3];rfl
   ·have h2:jq s[0]=false:=h2;refine brF ?_;refine⟨rb ?_,rfl⟩;rw [h2];rfl
  ·have h1:¬ (s.length:Int)<=16:=dF h1;refine brF ?_;refine brF ?_;refine⟨rb ?_,rfl⟩;rw [Uj (p:=s.length<=16) (by omega)];rfl
 ·have h:(!decide (s=[]))=false:=h;have h0:s=[]:=by simpa using h
  refine brF ?_;refine brF ?_;refine brF ?_;refine⟨rb ?_,rfl⟩;rw [h0];rfl
structure ChkB (kb l:Nat) (lets:Bs->Bool) (n:Nat) (w:Wd):Prop where
 f:w.heap[kb]?=some (.cells #[.map (some l),i64 (n:Nat)] 110 (0,0))
 lm:MapF zbq w l (zeL lets)
 ne:l≠kb
 og:3<kb
 ol:3<l
 glob:GlobK w
section
variable {kb l:Nat} {lets:Bs->Bool} {n:Nat} {w w2 X Y:Wd} {Q:Nat->Prop}
theorem ChkB.lt (h:ChkB kb l lets n w):kb<w.heap.size:=hlt h.f
theorem ChkB.below (h:ChkB kb l lets n w) (hb:Bw w w2):ChkB kb l lets n w2:=⟨zb hb h.f,h.lm.below hb,h.ne,h.og,h.ol,h.glob.below hb⟩
theorem ChkB.count (h:ChkB kb l lets n w) {m:Nat} {K:Wd->Prop} (k:∀ Y,ChkB kb l lets m Y->w.grownBy Y (some kb)->K Y) :
  SatR ((storeVar 3 ⟨kb,1,none⟩ (i64 (m:Nat))).run PG w) fun _ w'=>K w':=by
 have hn:=h.ne;exact zu k3 h.f (o:=1) (v:=i64 (m:Nat)) rfl rfl (by show 1<2;decide) rfl fun Y fY gY _=>k Y ⟨fY,h.lm.same (gY.block l (jX h.lm) (by simp;omega)),hn,h.og,h.ol,h.glob.grown h.og gY⟩ gY
structure ChT (Q:Nat->Prop) (w:Wd) (kb l:Nat) (lets:Bs->Bool) (n tb:Nat) (t:Trm) (q:OA) (cap:Nat) (X:Wd):Prop where
 p:ChkB kb l lets n X
 x:X.heap[tb]?=some (.cells (zd t q cap).toArray 24 (0,0))
 k:KidsT Q X q t.kids
 o:w.grownBy X (some kb)
 ne:tb≠kb
theorem ChT.grown {m tb:Nat} {t:Trm} {q:OA} {cap:Nat} (hQ:∀ b,Q b->b≠kb) (h:ChT Q w kb l lets n tb t q cap X) (hY:ChkB kb l lets m Y) (g:X.grownBy Y (some kb)):ChT Q w kb l lets m tb t q cap Y:=by
 have hne:=h.ne;exact⟨hY,(g.block _ (hlt h.x) (by simp;omega)).trans h.x,h.k.by fun b cs ty fr hb hc=>g.block b (hlt hc) (by have:=hQ b hb;simp;omega),zg h.o g,hne⟩
theorem zrf (hg:GlobK w) {k:Nat} (hk:k<10):w.cell? ⟨0,0+k,none⟩=some (i64 (j3 k)):=by
 refine zc hg.nd ?_;have hk:k<zeE.length:=hk;rw [KU,gE hk];unfold j3;rw [gDe];show some (i64 zeE[k])=some (i64 ((zeE[k]?).getD (-1)));rw [gE hk];rfl
def zua (kb l:Nat) (lets:Bs->Bool) (Q:Nat->Prop) (t:Trm):Prop:=∀ (n:Nat) (q:OA) (cap:Nat) (w:Wd),n<=400->ChkB kb l lets n w->t.name.length<=140737488351232->KidsT Q w q t.kids ->
 Calls PG 49 #[At0 kb,.agg (zd t q cap).toArray] w fun e w'=>e = .returned (.bool (chkT lets n t).1)/\ChkB kb l lets (chkT lets n t).2 w'/\w.grownBy w' (some kb)
theorem ztN (hQ:∀ b,Q b->b≠kb) {k:UInt8} {nq:Bs} {kids:List Trm} (ih:∀ x∈kids,zua kb l lets Q x):zua kb l lets Q (.mk k nq kids):=by
 intro n q cap w hn hB hnm hkd;refine z6 71 [At0 kb,.agg (zd (.mk k nq kids) q cap).toArray] (.c .p (.c .p (.c .p (.c .p (.c .p (.c .p .p)))))) Tryz.func49 ?_;obtain⟨R,hR⟩:=nm (chkT lets n (.mk k nq kids));rw [<- hR];rw [chkT] at hR;have hkb:=hB.lt;have hkl:kids.length<=140737488351232:=hkd.inv.1;have nk:∀ m:UInt8,decide ((k.toNat:Int)=(m.toNat:Int))=decide (k=m):=fun m=>zaB k m;refine⟨Unit,fun _=>⟨[(0,At0 kb),(3,At0 w.heap.size)],[]⟩,fun _ X=>ChT Q w kb l lets n w.heap.size (.mk k nq kids) q cap X,⟨(),(cvE rfl rfl),hB.below (zba _ _),zA w _,hkd.kept (zba _ _),zh (zba _ _),by omega⟩,?_⟩;rintro _ X hX;refine⟨Unit,fun _=>⟨[(0,At0 kb),(3,At0 w.heap.size)],[]⟩,fun _ X=>ChT Q w kb l lets (n+1) w.heap.size (.mk k nq kids) q cap X,?_,?_⟩
 ·refine⟨_,zc (za hX.p.f) (i:=1) rfl,?_⟩;refine nxI (by omega) ?_;refine hX.p.count (m:=n+1) fun Y hY gY=>?_;exact⟨(),(cvE rfl rfl),hX.grown hQ hY gY⟩
 clear hX hB;rintro _ X hX;have no:∀ {Y:Wd},ChT Q w kb l lets (n+1) w.heap.size (.mk k nq kids) q cap Y->R=(false,n+1)->Ending.returned (.bool false) = .returned (.bool R.1)/\ChkB kb l lets R.2 Y/\w.grownBy Y (some kb):=fun {Y} hY hR=>⟨rb (Gq Prod.fst hR).symm,by rw [hR];exact hY.p,hY.o⟩;refine⟨Unit,fun _=>⟨[(0,At0 kb),(3,At0 w.heap.size)],[]⟩,fun _ X=>ChT Q w kb l lets (n+1) w.heap.size (.mk k nq kids) q cap X/\¬ (n+1 > 400\/k.toNat ≥ 10\/(kids.length:Int)≠j3 k.toNat),?_,?_⟩
 ·refine DrawE.ord [] [0,1,2,3,4,5,6,7,8,9,10,11,12,13,14,15,16,17,18,19,20] (by kernel_rfl) ?_;have bD:=(Gh X.heap.size X).drew;have hD:ChT Q w kb l lets (n+1) w.heap.size (.mk k nq kids) q cap X.drew:=hX.grown hQ (hX.p.below bD) (zh bD);refine⟨_,zc (za hD.p.f) (i:=1) rfl,?_⟩;have bad:(n+1 > 400\/k.toNat ≥ 10\/(kids.length:Int)≠j3 k.toNat)->R=(false,n+1):=fun h=>by rw [hR,Gx h]
  refine biE (fun h1=>?_) fun h1=>?_
  ·have h1:(400:Int)<((n+1:Nat):Int):=dT h1;refine brT ?_;refine brT ?_;exact no hD (bad (.inl (by omega)))
  have h1:¬ (400:Int)<((n+1:Nat):Int):=dF h1;refine⟨_,zc (za hD.x) (i:=0) rfl,?_⟩;have hk8:=k.toNat_lt;refine⟨(k.toNat:Int),zi (a:=(k.toNat:Int)) (by omega),?_⟩;refine biE (fun h2=>?_) fun h2=>?_
  ·have h2:(10:Int)<=(k.toNat:Int):=dT h2;refine brT ?_;exact no hD (bad (.inr (.inl (by omega))))
  have h2:¬ (10:Int)<=(k.toNat:Int):=dF h2;refine⟨_,zc (za hD.x) (i:=2) rfl,?_⟩;refine⟨_,zc (za hD.x) (i:=0) rfl,?_⟩;refine⟨k.toNat,rfl,by omega,?_⟩;refine⟨_,by rw [Gd];exact zrf hD.p.glob (by omega),?_⟩;refine biE (fun h3=>?_) fun h3=>?_
  ·have h3:(!decide ((kids.length:Int)=j3 k.toNat))=true:=h3;exact no hD (bad (.inr (.inr (by simpa using h3))))
  ·have h3:(!decide ((kids.length:Int)=j3 k.toNat))=false:=h3;have h3:(kids.length:Int)=j3 k.toNat:=by simpa using h3
   exact⟨(),(cvE rfl rfl),hD,by rintro (h | h | h);omega;omega;exact h h3⟩
 clear hX;rintro _ X ⟨hX,hgood⟩;rw [Gw hgood] at hR;refine⟨Unit,fun _=>⟨[(0,At0 kb),(3,At0 w.heap.size)],[]⟩,fun _ X=>ChT Q w kb l lets (n+1) w.heap.size (.mk k nq kids) q cap X/\k≠1/\k≠9,?_,?_⟩
 ·refine⟨_,zc (za hX.x) (i:=0) rfl,?_⟩;refine biE (fun h1=>?_) fun h1=>?_
  ·have h1:k=1:=dT ((nk 1).symm.trans h1);rw [Gx h1] at hR;refine DrawE.ord [] [0,1,2,3,4,5,6,7,8,9,10,11,12] (by kernel_rfl) ?_;have bD:=(Gh X.heap.size X).drew;have hD:ChT Q w kb l lets (n+1) w.heap.size (.mk k nq kids) q cap X.drew:=hX.grown hQ (hX.p.below bD) (zh bD);refine⟨_,zc (za hD.x) (i:=1) rfl,?_⟩;refine cmo (zgj nq _) ?_;rintro e _ ⟨rfl,rfl⟩;refine⟨Gh _ _,?_⟩;refine biE (fun h2=>?_) fun h2=>?_
   ·have h2:jH nq=true:=h2;exact⟨rb (by rw [hR,h2];rfl),by rw [hR];exact hD.p,hD.o⟩
   ·have h2:jH nq=false:=h2;refine⟨_,zc (za hD.p.f) (i:=0) rfl,?_⟩;refine⟨_,zc (za hD.x) (i:=1) rfl,?_⟩;refine⟨_,fun w2 hb=>zdb (hD.p.lm.below hb) nq,?_⟩;exact⟨rb (by rw [hR,h2];rfl),by rw [hR];exact hD.p,hD.o⟩
  have h1:k≠1:=dF ((nk 1).symm.trans h1);rw [Gw h1] at hR;refine biE (fun h2=>?_) fun h2=>?_
  ·have h2:k=9:=dT ((nk 9).symm.trans h2);rw [Gx h2] at hR;refine⟨_,zc (za hX.x) (i:=1) rfl,?_⟩;refine cmo (zmU nq X) ?_;rintro e _ ⟨rfl,rfl⟩;exact⟨rb (Gq Prod.fst hR).symm,by rw [hR];exact hX.p,hX.o⟩
  ·have h2:k≠9:=dF ((nk 9).symm.trans h2);exact⟨(),(cvE rfl rfl),hX,h1,h2⟩
 clear hX;rintro _ X ⟨hX,h1,h9⟩;rw [Gw h1,Gw h9] at hR;refine⟨Unit,fun _=>⟨[(0,At0 kb),(3,At0 w.heap.size)],[]⟩,fun _ X=>ChT Q w kb l lets (n+1) w.heap.size (.mk k nq kids) q cap X/\nq=[],?_,?_⟩
 ·refine⟨_,zc (za hX.x) (i:=1) rfl,?_⟩;refine⟨_,fun w=>zdu _ _ nq [] w,?_⟩;refine biE (fun h2=>?_) fun h2=>?_
  ·have h2:(!decide (nq=[]))=true:=h2;have h2:nq≠[]:=by simpa using h2
   rw [Gx h2] at hR;exact no hX hR
  ·have h2:(!decide (nq=[]))=false:=h2;exact⟨(),(cvE rfl rfl),hX,by simpa using h2⟩
 clear hX;rintro _ X ⟨hX,hnm0⟩;rw [Gw (fun h=>h hnm0)] at hR;refine⟨Nat,fun _=>⟨[],[]⟩,fun m X=>ChkB kb l lets m X/\w.grownBy X (some kb)/\R=(true,m),?_,?_⟩
 ·refine⟨_,zc (za hX.x) (i:=2) rfl,?_⟩;refine⟨Nat×Nat,fun y=>⟨[(0,At0 kb),(3,At0 w.heap.size),(60,.slice q kids.length cap),(61,i64 (kids.length:Nat)),(62,.int .i64 (y.1:Nat))],[]⟩,fun y X=>ChT Q w kb l lets y.2 w.heap.size (.mk k nq kids) q cap X/\y.1<=kids.length/\y.2<=400/\R=chkL lets y.2 (kids.drop y.1),fun y=>kids.length-y.1,(0,n+1),(cvE rfl rfl),⟨hX,Ge _,by dsimp only;omega,hR⟩,?_⟩;clear hX hR;rintro⟨i,m⟩ X ⟨hX,hi,hm,hR⟩;dsimp only at hX hi hm hR ⊢;refine biE (fun hc=>?_) fun hc=>?_
  ·have hc:(i:Int)<(kids.length:Int):=dT hc;have hil:i<kids.length:=by omega
   obtain⟨_,b,o,hq,hcl⟩:=hX.k.inv;obtain⟨q2,c2,hnl,hQb,hcell,hk2⟩:=hcl i hil;have hcell:zo X ⟨b,o+i*3,none⟩ (zd kids[i] q2 c2):=hcell;have hk2:KidsT Q X q2 kids[i].kids:=hk2;have hnl:kids[i].name.length<=140737488351232:=hnl;obtain rfl:q=some ⟨b,o,none⟩:=by
    rcases hq with h | h
    ·have h:kids.length=0:=h;omega
    ·exact h
   have hbs:b<X.heap.size:=by
    have h0:=hcell 0 _ rfl;unfold World.cell? at h0
    split at h0
    ·rename_i hb;exact hlt hb
    ·cases h0
   refine⟨i,rfl,hil,?_⟩;refine⟨zd kids[i] q2 c2,rfl,hcell,hbs,?_⟩;refine zk (X:=X) (v := .agg (zd kids[i] q2 c2).toArray) k24 rfl rfl rfl fun Y hbY fY sY=>?_;have hY:ChT Q w kb l lets m w.heap.size (.mk k nq kids) (some ⟨b,o,none⟩) cap Y:=hX.grown hQ (hX.p.below hbY) (zh hbY);refine⟨zd kids[i] q2 c2,rfl,za fY,hlt fY,?_⟩;refine cmo (ih kids[i] (gM hil) m q2 c2 Y hm hY.p hnl (hk2.kept hbY)) ?_;have hmono:=ze1 lets m kids[i];rw [Jo hil,chkL] at hR;rcases hck:chkT lets m kids[i] with ⟨b2,m2⟩;rw [hck] at hR hmono;rintro e Z ⟨rfl,hZ,gZ⟩;dsimp only at hZ hmono ⊢;have hZZ:=hY.grown hQ hZ gZ;refine biE (fun hb=>?_) fun hb=>?_
   ·have hb:(!b2)=true:=hb;have hb:b2=false:=(by simpa using hb);subst hb;have hR:R=(false,m2):=hR;exact⟨rb (Gq Prod.fst hR).symm,by rw [hR];exact hZ,hZZ.o⟩
   ·have hb:(!b2)=false:=hb;have hb:b2=true:=(by simpa using hb);subst hb;refine nxI (by omega) ?_;exact⟨(i+1,m2),(cvE rfl rfl),⟨hZZ,hil,hmono.2 rfl,hR⟩,by dsimp only;omega⟩
  ·have hc:¬ (i:Int)<(kids.length:Int):=dF hc;rw [JA (by omega),chkL] at hR;exact⟨m,⟨.nil,rfl⟩,hX.p,hX.o,hR⟩
 clear hX hR;rintro m X ⟨hX,gX,hR⟩;exact⟨rb (Gq Prod.fst hR).symm,by rw [hR];exact hX,gX⟩
theorem zsC (hQ:∀ b,Q b->b≠kb):∀ t,zua kb l lets Q t
 | .mk k nq kids=>ztN hQ fun x hx=>zsC hQ x
end
structure LnB (w0 w:Wd) (kb l cb:Nat) (lets checks:Bs->Bool) (n:Nat) (X:Wd):Prop where
 p:ChkB kb l lets n X
 c:MapF zbq X cb (zeL checks)
 b:Bw w0 X
 o:Oth kb l l w X
 lo:w0.heap.size<=kb/\w0.heap.size<=l/\w0.heap.size<=w.heap.size
 hi:kb<w.heap.size/\l<w.heap.size/\w.heap.size<=cb
section
variable {w0 w X Y:Wd} {kb l cb n m:Nat} {lets checks:Bs->Bool}
theorem LnB.grown (h:LnB w0 w kb l cb lets checks n X) (hY:ChkB kb l lets m Y) (g:X.grownBy Y (some kb)):LnB w0 w kb l cb lets checks m Y:=by
 have h1:=h.lo;have h2:=h.hi;refine⟨hY,h.c.same (g.block _ (jX h.c) (by simp;omega)),h.b.trans (zm g h.b.size h1.1),h.o.trans (.of_grown g),h1,h2⟩
theorem LnB.below (h:LnB w0 w kb l cb lets checks n X) (hb:Bw X Y):LnB w0 w kb l cb lets checks n Y :=
 h.grown (h.p.below hb) (zh hb)
theorem LnB.setL (h:LnB w0 w kb l cb lets checks n X) (nq:Bs) {K:Wd->Prop} (k:∀ Y,LnB w0 w kb l cb (za3 lets nq) checks n Y->X.grownBy Y (some l)->K Y) :
  SatR ((Instr.mapUpdate 105 (.map (some l)) (zn nq) (.bool true)).run PG X) fun _ w'=>K w':=by
 obtain⟨o,hr,hm⟩:=jN zjL Tryz.underlying105 h.p.lm nq (.bool true);have h1:=h.lo;have h2:=h.hi;have h3:=h.p.ne;have gr:=zdz X l o;exact SatR.mk hr (k _ ⟨⟨(gr.block _ (hlt h.p.f) (by simp;omega)).trans h.p.f,by rw [zeq] at hm;exact hm,h3,h.p.og,h.p.ol,h.p.glob.grown h.p.ol gr⟩,h.c.same (gr.block _ (jX h.c) (by simp;omega)),h.b.trans (zm gr h.b.size h1.2.1),h.o.trans ⟨gr.os,gr.tape,gr.output,gr.size,fun j hj _ hn _=>gr.block j hj (by simp;omega)⟩,h1,h2⟩ gr)
theorem LnB.setC (h:LnB w0 w kb l cb lets checks n X) (nq:Bs) {K:Wd->Prop} (k:∀ Y,LnB w0 w kb l cb lets (za3 checks nq) n Y->X.grownBy Y (some cb)->K Y) :
  SatR ((Instr.mapUpdate 105 (.map (some cb)) (zn nq) (.bool true)).run PG X) fun _ w'=>K w':=by
 obtain⟨o,hr,hm⟩:=jN zjL Tryz.underlying105 h.c nq (.bool true);have h1:=h.lo;have h2:=h.hi;have h3:=h.p.ne;have h4:=h.p.og;have gr:=zdz X cb o;exact SatR.mk hr (k _ ⟨⟨(gr.block _ (hlt h.p.f) (by simp;omega)).trans h.p.f,h.p.lm.same (gr.block _ (jX h.p.lm) (by simp;omega)),h3,h4,h.p.ol,h.p.glob.grown (by omega) gr⟩,by rw [zeq] at hm;exact hm,h.b.trans (zm gr h.b.size (by omega)),h.o.then (zm gr h.o.size (by omega)),h1,h2⟩ gr)
theorem zrm {ls:List LineD} {p:OA} {cap:Nat} (hM:LinsM (fun _=>True) w0 p ls) (hlen:ls.length<=140737488351232) (hB:ChkB kb l lets n w) (hn:n<=400) (hb:Bw w0 w) (h1:w0.heap.size<=kb) (h2:w0.heap.size<=l) :
  Calls PG 91 #[At0 kb,.slice p ls.length cap] w fun e w'=>∃ lets' m,e = .returned (.bool (decide (ls.length<=40)&&(qe lets (fun _=>false) n ls).1))/\(ls.length<=40->(qe lets (fun _=>false) n ls).1=true->lets'=(qe lets (fun _=>false) n ls).2)/\ChkB kb l lets' m w'/\Oth kb l l w w'/\Bw w0 w':=by
 refine z6 54 [At0 kb,.slice p ls.length cap] (.s .p (.c .p (.s .p (.s (.s .p (.b (.l (.s .p (.s .p (.s (.b (.c .p (.c .p (.s .p (.c .p (.c .p .p)))))) .p)))))) .p)))) Tryz.func91 ?_;have hkb:=hB.lt;have hll:=jX hB.lm;obtain⟨rows,hrl,zb7,hrk,_⟩:=hM;have hrn:rows.length=ls.length:=by rw [<- hrl,QQ]
 refine⟨Nat,fun cb=>⟨[(0,At0 kb),(1,.slice p ls.length cap),(5,.map (some cb))],[]⟩,fun cb X=>LnB w0 w kb l cb lets (fun _=>false) n X,?_,?_⟩
 ·refine⟨Value.map (some w.heap.size),w.alloc (.map #[] 0),rfl,?_⟩;have m3:MapF (key:=zbq) (w.alloc (.map #[] 0)) w.heap.size (fun (_:Bs)=>none):=MapF.new;exact⟨w.heap.size,(cvE rfl rfl),hB.below (zba _ _),m3,hb.trans ((zba w (.map #[] 0)).mono hb.size),.of_below (zba _ _),⟨h1,h2,hb.size⟩,hkb,hll,Gc _⟩
 rintro cb X hX;refine biE (fun h3=>?_) fun h3=>?_
 ·have h3:(40:Int)<(ls.length:Int):=dT h3;exact⟨lets,n,rb (by rw [Uj (by omega)];rfl),fun h=>Gy h (by omega),hX.p,hX.o,hX.b⟩
 have h3:¬ (40:Int)<(ls.length:Int):=dF h3;obtain⟨R,hR⟩:=nm (qe lets (fun _=>false) n ls);rw [<- hR,Ut (p:=ls.length<=40) (by omega),Uz];have fin:∀ {Z:Wd} {lets2 checks2:Bs->Bool} {m:Nat} {lets3:Bs->Bool},LnB w0 w kb l cb lets2 checks2 m Z->R=(false,lets3)->∃ lets' m,Ending.returned (.bool false) = .returned (.bool R.1)/\(ls.length<=40->R.1=true->lets'=R.2)/\ChkB kb l lets' m Z/\Oth kb l l w Z/\Bw w0 Z:=fun {Z lets2 checks2 m lets3} hZ hR =>
  ⟨lets2,m,rb (Gq Prod.fst hR).symm,(fun _ h=>by rw [hR] at h;cases h),hZ.p,hZ.o,hZ.b⟩
 refine⟨Nat×(Bs->Bool)×(Bs->Bool)×Nat,fun y=>⟨[(0,At0 kb),(5,.map (some cb)),(13,.slice p ls.length cap),(14,i64 (ls.length:Nat)),(15,.int .i64 (y.1:Nat))],[]⟩,fun y X=>LnB w0 w kb l cb y.2.1 y.2.2.1 y.2.2.2 X/\y.1<=ls.length/\y.2.2.2<=400/\R=qe y.2.1 y.2.2.1 y.2.2.2 (ls.drop y.1),fun y=>ls.length-y.1,(0,lets,fun _=>false,n),(cvE rfl rfl),⟨hX,Ge _,hn,hR⟩,?_⟩;clear hX hR;rintro⟨i,lets,checks,n⟩ X ⟨hX,hi,hn,hR⟩;dsimp only at hX hi hn hR ⊢;refine biE (fun hc=>?_) fun hc=>?_
 ·have hc:(i:Int)<(ls.length:Int):=dT hc;have hil:i<ls.length:=by omega
  have hir:i<rows.length:=by omega
  obtain⟨x,hx⟩:=nm (ls[i]);have hxr:rows[i].1=x:=by
   rw [hx];have:(rows.map (·.1))[i]?=ls[i]?:=by rw [hrl]
   rw [KU,gE hir,gE hil] at this;exact Ug this
  rw [Jo hil,<- hx] at hR;rw [qe] at hR;obtain⟨bk,o,hp,hbk,hcl⟩:=zb7.at hir;subst hp;obtain⟨k1,k2,k3,k4⟩:=hrk rows[i] (gM hir);have hcell:zo w0 ⟨bk,o+i*5,none⟩ (zz rows[i].1.kind rows[i].1.name rows[i].1.term rows[i].2.1 rows[i].2.2):=hcl i hir;rw [hxr] at hcell k1 k2 k3 k4;obtain⟨q,hq⟩:=nm (rows[i].2.1);obtain⟨cp,hcp⟩:=nm (rows[i].2.2);rw [<- hq,<- hcp] at hcell;rw [<- hq] at k4;have kd:KidsT (fun b=>b<w0.heap.size) w0 q x.term.kids:=k4.there.weak fun b hb=>hb.2;have kids:∀ {Z:Wd},Bw w0 Z->KidsT (fun b=>b<w0.heap.size) Z q x.term.kids:=fun {Z} hZ=>kd.by fun b cs ty fr hb hc=>hZ.block b hb
  clear k4 zb7 hrk hcl;refine⟨Nat,fun b7=>⟨[(0,At0 kb),(5,.map (some cb)),(7,At0 b7),(13,.slice (some ⟨bk,o,none⟩) ls.length cap),(14,i64 (ls.length:Nat)),(15,.int .i64 (i:Nat))],[]⟩,fun b7 Y=>LnB w0 w kb l cb lets checks n Y/\Y.heap[b7]?=some (.cells (zz x.kind x.name x.term q cp).toArray 49 (0,0))/\w.heap.size<=b7/\b7≠cb,?_,?_⟩
  ·refine⟨i,rfl,hil,zz x.kind x.name x.term q cp,rfl,qT hX.b hbk hcell,nL hbk hX.b.size,zk (X:=X) (v := .agg (zz x.kind x.name x.term q cp).toArray) k49 rfl rfl rfl fun Y hbY fY sY=>?_⟩;have:=jX hX.c;exact⟨X.heap.size,(cvE rfl rfl),hX.below hbY,fY,hX.o.size,by omega⟩
  clear hX X hcell;rintro b7 X ⟨hX,fx,hb7,hb7c⟩;have hnl:x.name.length<=140737488351232:=k2;refine⟨Nat,fun m=>⟨[(0,At0 kb),(5,.map (some cb)),(7,At0 b7),(13,.slice (some ⟨bk,o,none⟩) ls.length cap),(14,i64 (ls.length:Nat)),(15,.int .i64 (i:Nat))],[]⟩,fun m Y=>LnB w0 w kb l cb lets checks m Y/\Y.heap[b7]?=some (.cells (zz x.kind x.name x.term q cp).toArray 49 (0,0))/\m<=400/\¬ (x.kind > 3\/jh x.name=false)/\chkT lets n x.term=(true,m),?_,?_⟩
  ·refine⟨_,zc (za fx) (i:=0) rfl,?_⟩;have bad:(x.kind > 3\/jh x.name=false)->R=(false,lets):=fun h=>by rw [hR,Gx h]
   refine biE (fun h4=>?_) fun h4=>?_
   ·have h4:(3:Int)<(x.kind:Int):=dT h4;exact brT (brT (fin hX (bad (.inl (by omega)))))
   have h4:¬ (3:Int)<(x.kind:Int):=dF h4;refine⟨_,zc (za fx) (i:=1) rfl,cmo (zpH x.name hnl X hX.p.glob) ?_⟩;rintro e _ ⟨rfl,rfl⟩;refine biE (fun h5=>?_) fun h5=>?_
   ·have h5:(!jh x.name)=true:=h5;exact brT (fin hX (bad (.inr (by simpa using h5))))
   have h5:(!jh x.name)=false:=h5;have h5:jh x.name=true:=by simpa using h5
   have hgood:¬ (x.kind > 3\/jh x.name=false):=by rintro (h | h);omega;rw [h5] at h;cases h
   rw [Gw hgood] at hR;have ht:zo X ⟨b7,0+2,none⟩ (zd x.term q cp):=qz (o:=2) (n:=3) fx;refine⟨zd x.term q cp,rfl,ht,hlt fx,?_⟩;have hck:=zsC (kb:=kb) (l:=l) (lets:=lets) (Q:=fun b=>b<w0.heap.size) (fun b hb=>by have:=hX.lo;omega) x.term n q cp X hn hX.p k3 (kids hX.b);have hmono:=ze1 lets n x.term;rcases hce:chkT lets n x.term with ⟨b2,m⟩;rw [hce] at hR hck hmono;refine cmo hck ?_;rintro e Y ⟨rfl,hY,gY⟩;dsimp only at hY hmono ⊢;have hYY:=hX.grown hY gY;have h9:=hX.hi;have fY:=(gY.block _ (hlt fx) (by simp;omega)).trans fx;refine biE (fun h6=>?_) fun h6=>?_
   ·have h6:(!b2)=true:=h6;have h6:b2=false:=(by simpa using h6);subst h6;exact fin hYY hR
   ·have h6:(!b2)=false:=h6;have h6:b2=true:=(by simpa using h6);subst h6;exact⟨m,(cvE rfl rfl),hYY,fY,hmono.2 rfl,hgood,rfl⟩
  clear hX fx X;rintro m X ⟨hX,fx,hm,hgood,hce⟩;rw [Gw hgood,hce] at hR;dsimp only at hR;refine⟨Nat,fun nb=>⟨[(0,At0 kb),(5,.map (some cb)),(7,At0 b7),(8,.map (some nb)),(13,.slice (some ⟨bk,o,none⟩) ls.length cap),(14,i64 (ls.length:Nat)),(15,.int .i64 (i:Nat))],[]⟩,fun nb Y=>X=Y/\((x.kind=0/\nb=l/\jH x.name=false)\/(x.kind≠0/\nb=cb)),?_,?_⟩
  ·refine⟨_,zc (za fx) (i:=0) rfl,biE (fun h4=>?_) fun h4=>?_⟩
   ·have h4:(x.kind:Int)=0:=dT h4;rw [Gx (by omega)] at hR;refine⟨_,zc (za hX.p.f) (i:=0) rfl,_,zc (za fx) (i:=1) rfl,cmo (zgj x.name X) ?_⟩;rintro e _ ⟨rfl,rfl⟩;refine biE (fun h5=>?_) fun h5=>?_
    ·have h5:jH x.name=true:=h5;rw [h5,Bool.true_or,Gx rfl] at hR;exact fin hX hR
    ·have h5:jH x.name=false:=h5;exact⟨l,(cvE rfl rfl),rfl,.inl ⟨by omega,rfl,h5⟩⟩
   ·have h4:¬ (x.kind:Int)=0:=dF h4;exact⟨cb,(cvE rfl rfl),rfl,.inr ⟨by omega,rfl⟩⟩
  rintro nb _ ⟨rfl,hnb⟩;refine⟨Unit,fun _=>⟨[(0,At0 kb),(5,.map (some cb)),(7,At0 b7),(8,.map (some nb)),(13,.slice (some ⟨bk,o,none⟩) ls.length cap),(14,i64 (ls.length:Nat)),(15,.int .i64 (i:Nat))],[]⟩,fun nb Y=>X=Y/\((x.kind=0/\lets x.name=false)\/(x.kind≠0/\checks x.name=false)),?_,?_⟩
  ·refine⟨_,zc (za fx) (i:=1) rfl,?_⟩;obtain⟨gf,hm8,hgf⟩:∃ gf:Bs->Bool,MapF zbq X nb (zeL gf)/\((x.kind=0/\gf=lets/\jH x.name=false)\/(x.kind≠0/\gf=checks)):=by
    rcases hnb with ⟨e1,rfl,e3⟩ | ⟨e1,rfl⟩
    ·exact⟨lets,hX.p.lm,.inl ⟨e1,rfl,e3⟩⟩
    ·exact⟨checks,hX.c,.inr ⟨e1,rfl⟩⟩
   refine⟨_,fun w2 hb=>zdb (hm8.below hb) x.name,biE (fun h5=>?_) fun h5=>?_⟩
   ·have h5:gf x.name=true:=h5;rcases hgf with ⟨e1,rfl,e3⟩ | ⟨e1,rfl⟩
    ·rw [Gx e1,h5,Bool.or_true,Gx rfl] at hR;exact fin hX hR
    ·rw [Gw e1,Gx h5] at hR;exact fin hX hR
   ·have h5:gf x.name=false:=h5;refine⟨(),(cvE rfl rfl),rfl,?_⟩;rcases hgf with ⟨e1,rfl,e3⟩ | ⟨e1,rfl⟩
    ·exact .inl ⟨e1,h5⟩
    ·exact .inr ⟨e1,h5⟩
  rintro _ _ ⟨rfl,hfr⟩;refine⟨_,zc (za fx) (i:=1) rfl,?_⟩;rcases hnb with ⟨e1,rfl,e3⟩ | ⟨e1,rfl⟩
  ·have hf:lets x.name=false:=by rcases hfr with h | h;exact h.2;exact Gy e1 h.1
   rw [Gx e1,e3,hf,Uy,Gw Ku] at hR;exact hX.setL x.name fun Y hY _=>nxI (by omega) ⟨(i+1,za3 lets x.name,checks,m),(cvE rfl rfl),⟨hY,hil,hm,hR⟩,by dsimp only;omega⟩
  ·have hf:checks x.name=false:=by rcases hfr with h | h;exact Gy h.1 e1;exact h.2
   rw [Gw e1,hf,Gw Ku] at hR;exact hX.setC x.name fun Y hY _=>nxI (by omega) ⟨(i+1,lets,za3 checks x.name,m),(cvE rfl rfl),⟨hY,hil,hm,hR⟩,by dsimp only;omega⟩
 ·have hc:¬ (i:Int)<(ls.length:Int):=dF hc;rw [JA (by omega),qe] at hR;exact⟨lets,n,rb (Gq Prod.fst hR).symm,(fun _ _=>by rw [hR]),hX.p,hX.o,hX.b⟩
end
theorem zhI (s:Bs):Go.Lib.strCells (bs s)=s.flatMap zO.enc:=by
 have e1:Go.Lib.strCells (bs s)=s.map u8:=rfl;rw [e1]
 induction s with
 | nil=>rfl
 | cons a r ih=>rw [KS,<- ih rfl];rfl
theorem zsb {w:Wd} {t u ty B cap:Nat} {p:OA} {l:Bs} {iT:TI} (hu:Tryz.prog.underlying t=some (.slice 5)) (hs:Tryz.prog.underlying u=some .string) (hT:TIok PG 5 iT) (hz:iT.zero=some [.int .u8 0]) (h1:iT.size=1) (hby:iT.bytes=1)
  (ho:OwnS zO 5 B w p cap l) (s:Bs) (hl:l.length+s.length<=1000000000) (hB:B<=w.heap.size) {K:Value->Wd->Prop}
  (k:∀ p' cap' w',OwnS zO 5 B w' p' cap' (l++s)->w.grownBy w' (Value.slice p l.length cap).ownBlock->K (.slice p' (l++s).length cap') w') :
  SatR ((Builtin.append_ #[t,u] ty #[.slice p l.length cap,zn s]).run PG w) K:=by
 obtain⟨⟨inf,hi,hsz,hbb,hzz⟩,_⟩:=hT;obtain⟨zv,hzv,hzc⟩:=hzz _ hz;have hz0:zv = .int .u8 0:=by
  have he:inf.zero=some (.int .u8 0):=by
   have:(Tryz.prog.info? 5).bind (fun i=>i.zero)=some (.int .u8 0):=by kernel_rfl
   rw [hi] at this;exact this
  exact Ug (hzv.symm.trans he)
 subst hz0;obtain⟨v',w',hr,ho',hg,_⟩:=Go.Lib.run_append_own_string (P:=PG) w B t u ty 5 inf hu hs hi hzv (hsz.trans h1) (hbb.trans hby) (.slice p l.length cap) l.length (l.flatMap zO.enc) ho (bs s) (by unfold maxLen;show l.length+s.length<=_;omega) (by show l.length+s.length<=_;omega) hB;have e1:l.flatMap zO.enc++Go.Lib.strCells (bs s)=(l++s).flatMap zO.enc:=by
  rw [Kf,zhI]
 have e2:l.length+(bs s).size=(l++s).length:=by rw [lap];rfl
 rw [e1,e2] at ho';refine SatR.mk hr ?_;rcases ho'.2 with ⟨rfl,h0⟩ | ⟨g,cap',cur,rfl,qB⟩
 ·have:K (.slice none (l++s).length 0) w':=k none 0 w' (by unfold OwnS;rw [h0] at ho' ⊢;exact ho') hg;rw [h0] at this;exact this
 ·exact k _ _ w' ho' hg
structure PrB (wb:Nat) (pr:Pr) (X:Wd):Prop where
 f:∃ q cap,X.heap[wb]?=some (.cells #[.slice q pr.text.length cap,i64 (pr.deep:Nat),i64 (pr.most:Nat)] 113 (0,0))/\OwnS zO 5 (wb+1) X q cap pr.text
 og:3<wb
 glob:GlobK X
structure PrS (wb:Nat) (X Y:Wd):Prop where
 os:Y.os=X.os
 tape:Y.tape=X.tape
 output:Y.output=X.output
 size:X.heap.size<=Y.heap.size
 low:∀ j,j<wb->Y.heap[j]?=X.heap[j]?
 block:∀ (j:Nat) (cs:Array Value) (t:TypeId),j≠wb->t≠5->X.heap[j]?=some (.cells cs t (0,0))->Y.heap[j]?=X.heap[j]?
section
variable {wb tb:Nat} {pr pr2:Pr} {w X Y Z:Wd}
theorem PrS.refl:PrS wb X X:=⟨rfl,rfl,rfl,Gc _,fun _ _=>rfl,fun _ _ _ _ _ _=>rfl⟩
theorem PrS.trans (h:PrS wb X Y) (k:PrS wb Y Z):PrS wb X Z :=
 ⟨k.os.trans h.os,k.tape.trans h.tape,k.output.trans h.output,UT h.size k.size,fun j hj=>(k.low j hj).trans (h.low j hj),fun j cs t h1 h2 h3=>(k.block j cs t h1 h2 ((h.block j cs t h1 h2 h3).trans h3)).trans (h.block j cs t h1 h2 h3)⟩
theorem PrS.of_below (h:Bw X Y) (hw:wb<=X.heap.size):PrS wb X Y :=
 ⟨h.os,h.tape,h.output,h.size,fun j hj=>h.block j (by omega),fun j cs t _ _ hc=>h.block j (hlt hc)⟩
theorem PrS.of_grown (h:X.grownBy Y (some wb)) (hw:wb<=X.heap.size):PrS wb X Y :=
 ⟨h.os,h.tape,h.output,h.size,fun j hj=>h.block j (by omega) (by simp;omega),fun j cs t hn _ hc=>h.block j (hlt hc) (by simp;omega)⟩
theorem PrB.lt (h:PrB wb pr X):wb<X.heap.size:=by
 obtain⟨_,_,f,_⟩:=h.f;exact hlt f
theorem PrB.below (h:PrB wb pr X) (hb:Bw X Y):PrB wb pr Y:=by
 obtain⟨q,cap,f,o⟩:=h.f;exact⟨⟨q,cap,zb hb f,o.below hb⟩,h.og,h.glob.below hb⟩
theorem PrB.num (h:PrB wb pr X) {deep most:Nat} {o:Nat} {v:Value} (ho:o=1/\v=i64 (deep:Nat)/\most=pr.most\/o=2/\v=i64 (most:Nat)/\deep=pr.deep) {K:Wd->Prop} (k:∀ Y,PrB wb { pr with deep:=deep,most:=most } Y->PrS wb X Y->K Y) :
  SatR ((storeVar 3 ⟨wb,o,none⟩ v).run PG X) fun _ w'=>K w':=by
 obtain⟨q,cap,f,ow⟩:=h.f;have hw:=hlt f;have key:∀ Y,Y.heap[wb]?=some (.cells #[.slice q pr.text.length cap,i64 (deep:Nat),i64 (most:Nat)] 113 (0,0))->X.grownBy Y (some wb)->K Y:=fun Y fY gY =>
  k Y ⟨⟨q,cap,fY,ow.kept gY fun gg hg e=>by have h5:wb+1<=gg:=(zx ow hg).1;simp at e;omega⟩,h.og,h.glob.grown h.og gY⟩ (.of_grown gY (by omega))
 rcases ho with ⟨rfl,rfl,rfl⟩ | ⟨rfl,rfl,rfl⟩
 ·exact zu k3 f (o:=1) rfl rfl (by show 1<3;decide) rfl fun Y fY gY _=>key Y fY gY
 ·exact zu k3 f (o:=2) rfl rfl (by show 2<3;decide) rfl fun Y fY gY _=>key Y fY gY
theorem zpt {x y:Int} {T:Array TypeId} {t:TypeId} {w:Wd} {K:Value->Wd->Prop} (k:K (.int .i64 (if x<y then y else x)) w):SatR ((Builtin.max_ T t [Value.int .i64 x,.int .i64 y].toArray).run PG w) K :=
 SatR.mk (v := .int .i64 (if x<y then y else x)) (w':=w) (by simp [Builtin.max_,Builtin.max2]) k
def zl1:List Bs->Nat
 | []=>0
 | s::r=>s.length+zl1 r
theorem zoi:∀ (l:List Bs) (i:Nat) (h:i<l.length),zl1 (l.drop i)=l[i].length+zl1 (l.drop (i+1)):=fun l i h=>by
 rw [Jo h,zl1]
def zq4 (pr:Pr) (l:List Bs):Pr:=l.foldl ql pr
theorem zs3 {l:List Bs} {sb:Nat} (h:PrB wb pr X) (hs:X.heap[sb]?=some (.cells (l.map zn).toArray 9 (0,0))) (hne:sb≠wb) (hl:l.length<=10) (hlen:pr.text.length+zl1 l<=1000000) :
  Calls PG 95 #[At0 wb,.slice (some ⟨sb,0,none⟩) l.length l.length] X fun e Y=>e = .returned (jI [])/\PrB wb (zq4 pr l) Y/\PrS wb X Y:=by
 refine zD 22 [At0 wb,.slice (some ⟨sb,0,none⟩) l.length l.length] Tryz.func95 ?_;obtain⟨R,hR⟩:=nm (zq4 pr l);rw [<- hR];refine⟨Nat×Pr,fun y=>⟨[(0,At0 wb),(6,.slice (some ⟨sb,0,none⟩) l.length l.length),(7,i64 (l.length:Nat)),(8,.int .i64 (y.1:Nat))],[]⟩,fun y Y=>PrB wb y.2 Y/\PrS wb X Y/\y.1<=l.length/\R=zq4 y.2 (l.drop y.1)/\y.2.text.length+zl1 (l.drop y.1)<=1000000,fun y=>l.length-y.1,(0,pr),(cvE rfl rfl),⟨h,.refl,Ge _,hR,hlen⟩,?_⟩;clear hR hlen h;rintro⟨i,pr⟩ Y ⟨hY,sY,hi,hR,hlen⟩;dsimp only at hY hi hR hlen ⊢;have hsY:=(sY.block sb _ _ hne (by decide) hs).trans hs;refine biE (fun hc=>?_) fun hc=>?_
 ·have hc:(i:Int)<(l.length:Int):=dT hc;have hil:i<l.length:=by omega
  refine⟨i,rfl,hil,?_⟩;have hcell:Y.cell? ⟨sb,0+i,none⟩=some (zn l[i]):=zc (za hsY) (by simp [hil]);refine⟨_,by rw [Gd];exact hcell,?_⟩;obtain⟨q,cap,f,ow⟩:=hY.f;have hwY:=hlt f;rw [zoi l i hil] at hlen;refine⟨_,zc (za f) (i:=0) rfl,zsb Tryz.underlying72 Tryz.underlying9 k5 rfl rfl rfl ow l[i] (by omega) (by omega) fun q2 c2 V oV gV=>?_⟩;have hwV:(Value.slice q pr.text.length cap).ownBlock≠some wb:=fun e=>by
   have:=(QF ow wb e).1;omega
  have fV:V.heap[wb]?=some (.cells #[.slice q pr.text.length cap,i64 (pr.deep:Nat),i64 (pr.most:Nat)] 113 (0,0)):=(gV.block wb hwY hwV.symm).trans f;refine zu k72 fV (o:=0) (v := .slice q2 (pr.text++l[i]).length c2) rfl rfl (by show 0<3;decide) rfl fun Z fZ gZ _=>?_;have lowV:∀ j,j<=wb->V.heap[j]?=Y.heap[j]?:=fun j hj=>gV.block j (by omega) fun e=>by
   have:=(QF ow j e.symm).1;omega
  have sV:PrS wb Y V:=⟨gV.os,gV.tape,gV.output,gV.size,fun j hj=>lowV j (by omega),fun j cs t hn ht hc=>gV.block j (hlt hc) fun e=>by
   rcases q with _ | a
   ·simp [Value.ownBlock] at e
   ·rcases ow.inv with ⟨h0,_⟩ | ⟨gg,cur,h0,_,hg,_⟩
    ·cases h0
    ·cases h0
     simp [Value.ownBlock] at e;subst e;rw [hg] at hc;simp only [KZ,Obj.cells.injEq] at hc;exact ht hc.2.1.symm⟩
  have hV:GlobK V:=⟨zJ (lowV _ (by have:=hY.og;exact US (KE (by decide) this))) hY.glob.op,zJ (lowV _ (by have:=hY.og;exact US (KE (by decide) this))) hY.glob.st,zJ (lowV _ (by have:=hY.og;exact US (KE (by decide) this))) hY.glob.sg,zJ (lowV _ (by have:=hY.og;exact US (KE (by decide) this))) hY.glob.nd,nL hY.glob.lt gV.size⟩;have hwsz:wb<=V.heap.size:=by have:=gV.size;omega
  refine nxI (by omega) ⟨(i+1,ql pr l[i]),(cvE rfl rfl),⟨⟨⟨q2,c2,fZ,oV.kept gZ fun gg hg e=>by have h5:wb+1<=gg:=(zx oV hg).1;simp at e;omega⟩,hY.og,hV.grown hY.og gZ⟩,sY.trans (sV.trans (.of_grown gZ hwsz)),hil,?_,?_⟩,by dsimp only;omega⟩
  ·rw [hR,Jo hil];rfl
  ·dsimp only;rw [qx];omega
 ·have hc:¬ (i:Int)<(l.length:Int):=dF hc;rw [JA (by omega)] at hR;exact⟨rfl,by rw [hR];exact hY,sY⟩
theorem zaY {l:List Bs} {n:Nat} (h:PrB wb pr X) (hn:l.length=n) (hl:l.length<=10) (hlen:pr.text.length+zl1 l<=1000000) :
  Calls PG 95 #[At0 wb,.slice (some ⟨X.heap.size,0,none⟩) n n] (X.alloc (.cells (l.map zn).toArray 9)) fun e Y=>e = .returned (jI [])/\PrB wb (zq4 pr l) Y/\PrS wb X Y:=by
 subst hn;have hw:=h.lt;refine cmo (zs3 (h.below (zba _ _)) (zA X _) (by omega) hl hlen) ?_;rintro e Y ⟨he,hY,sY⟩;exact⟨he,hY,(PrS.of_below (zba X _) (by omega)).trans sY⟩
structure PrX (w:Wd) (wb tb:Nat) (t:Trm) (q:OA) (cap:Nat) (pr:Pr) (X:Wd):Prop where
 p:PrB wb pr X
 x:X.heap[tb]?=some (.cells (zd t q cap).toArray 24 (0,0))
 k:KidsT (fun b=>b<wb) X q t.kids
 o:PrS wb w X
 ne:tb≠wb
theorem PrX.step {t:Trm} {q:OA} {cap:Nat} (h:PrX w wb tb t q cap pr X) (hY:PrB wb pr2 Y) (s:PrS wb X Y):PrX w wb tb t q cap pr2 Y :=
 ⟨hY,(s.block tb _ _ h.ne (by decide) h.x).trans h.x,h.k.by fun b cs ty fr hb hc=>s.low b hb,h.o.trans s,h.ne⟩
def PrC (wb:Nat) (t:Trm):Prop:=∀ (pr:Pr) (q:OA) (cap:Nat) (X:Wd),PrB wb pr X->KidsT (fun b=>b<wb) X q t.kids->pr.text.length+40*nodesT t<=900000->pr.deep+nodesT t<=1000->pr.most<=1000 ->
 Calls PG 50 #[At0 wb,.agg (zd t q cap).toArray] X fun e Y=>e = .returned (jI [])/\PrB wb (prT pr t) Y/\PrS wb X Y
theorem ziX {t:Trm} (hv:VT t) (hT:PrC wb t) {least:Nat} (hl6:least<=6) {q:OA} {cap:Nat} (r:List Trm) (h:PrB wb pr w) (hk:KidsT (fun b=>b<wb) w q t.kids) (hlen:pr.text.length+40*nodesT t+8<=900000) (hd:pr.deep+nodesT t+1<=1000) (hm:pr.most<=1000) :
  Calls PG 96 #[At0 wb,.agg (zd t q cap).toArray,i64 (least:Nat)] w fun e Y=>e = .returned (jI [])/\PrB wb (prHead pr least (t::r)) Y/\PrS wb w Y:=by
 refine z6 56 [At0 wb,.agg (zd t q cap).toArray,i64 (least:Nat)] (.c .p (.s .p (.c .p (.c .p (.c .p (.c .p (.c .p (.c .p .p)))))))) Tryz.func96 ?_;have hw:=h.lt;obtain⟨R,hR⟩:=nm (prHead pr least (t::r));rw [<- hR];rw [prHead] at hR;have hk10:t.kind.toNat<10:=by cases hv;assumption
 refine⟨Unit,fun _=>⟨[(0,At0 wb),(2,i64 (least:Nat)),(4,At0 w.heap.size)],[]⟩,fun _ X=>PrX w wb w.heap.size t q cap pr X,⟨(),(cvE rfl rfl),h.below (zba _ _),zA w _,hk.kept (zba _ _),.of_below (zba _ _) (by omega),by omega⟩,?_⟩;rintro _ X hX;refine⟨_,zc (za hX.x) (i:=0) rfl,t.kind.toNat,rfl,by omega,?_⟩;refine⟨_,by rw [Gd];exact za1 hX.p.glob hk10,?_⟩;have es:zbw.getD t.kind.toNat 0=qI t.kind.toNat:=by
  have:∀ j:Fin 10,zbw.getD j.1 0=qI j.1:=by decide
  exact this ⟨_,hk10⟩
 refine⟨Unit,fun _=>⟨[(0,At0 wb),(4,At0 w.heap.size)],[]⟩,fun _ Y=>X=Y/\¬ (qI t.kind.toNat=0\/qI t.kind.toNat ≥ least),?_,?_⟩
 ·have good:(qI t.kind.toNat=0\/qI t.kind.toNat ≥ least)->∃ us:List Value,us.length=3/\zo X ⟨w.heap.size,0,none⟩ us/\w.heap.size<X.heap.size/\Calls PG 50 #[At0 wb,.agg us.toArray] X fun e Y=>e = .returned (jI [])/\PrB wb R Y/\PrS wb w Y:=fun hc=>by
   rw [Gx hc] at hR;refine⟨_,rfl,za hX.x,hlt hX.x,cmo (hT pr q cap X hX.p hX.k (by omega) (by omega) (by omega)) ?_⟩;rintro e Y ⟨rfl,hY,sY⟩;exact⟨rfl,by rw [hR];exact hY,hX.o.trans sY⟩
  rw [<- es] at good ⊢;refine biE (fun h1=>?_) fun h1=>?_
  ·have h1:((zbw.getD t.kind.toNat 0:Nat):Int)=0:=dT h1;refine brT ?_;obtain⟨us,u1,u2,u3,u4⟩:=good (.inl (by omega));refine⟨us,u1,u2,u3,cmo u4 ?_⟩;rintro e Y ⟨rfl,hY,sY⟩;exact⟨rfl,hY,sY⟩
  have h1:¬ ((zbw.getD t.kind.toNat 0:Nat):Int)=0:=dF h1;refine biE (fun h2=>?_) fun h2=>?_
  ·have h2:(least:Int)<=((zbw.getD t.kind.toNat 0:Nat):Int):=dT h2;obtain⟨us,u1,u2,u3,u4⟩:=good (.inr (by omega));refine⟨us,u1,u2,u3,cmo u4 ?_⟩;rintro e Y ⟨rfl,hY,sY⟩;exact⟨rfl,hY,sY⟩
  ·have h2:¬ (least:Int)<=((zbw.getD t.kind.toNat 0:Nat):Int):=dF h2;exact⟨(),(cvE rfl rfl),rfl,by rintro (h | h) <;> omega⟩
 rintro _ _ ⟨rfl,hno⟩;rw [Gw hno] at hR;refine⟨Unit,fun _=>⟨[(0,At0 wb),(4,At0 w.heap.size)],[]⟩,fun _ Y=>PrX w wb w.heap.size t q cap { pr with deep:=pr.deep+1 } Y,?_,?_⟩
 ·obtain⟨_,_,f,_⟩:=hX.p.f;exact⟨_,zc (za f) (i:=1) rfl,((pr.deep+1:Nat):Int),(zi (by omega)).trans (by omega),hX.p.num (deep:=pr.deep+1) (most:=pr.most) (.inl ⟨rfl,rfl,rfl⟩) fun Y hY sY=>⟨(),(cvE rfl rfl),hX.step hY sY⟩⟩
 clear hX X;rintro _ X hX;refine⟨Unit,fun _=>⟨[(0,At0 wb),(4,At0 w.heap.size)],[]⟩,fun _ Y=>PrX w wb w.heap.size t q cap { pr with deep:=pr.deep+1,most:=max pr.most (pr.deep+1) } Y,?_,?_⟩
 ·refine DrawE.ord [12] [0,1,2,3,4,5,6,7,8,9,10,11,12] (by kernel_rfl) ?_;have bD:=(Gh X.heap.size X).drew;have hD:=hX.step (hX.p.below bD) (.of_below bD (US hX.p.lt));obtain⟨_,_,f,_⟩:=hD.p.f;refine⟨_,zc (za f) (i:=2) rfl,?_⟩;refine⟨_,zc (za f) (i:=1) rfl,?_⟩;refine zpt ?_;have emax:(if ((pr.most:Nat):Int)<((pr.deep+1:Nat):Int) then ((pr.deep+1:Nat):Int) else ((pr.most:Nat):Int))=((max pr.most (pr.deep+1):Nat):Int):=by split <;> omega
  exact⟨Gh _ _,hD.p.num (deep:=pr.deep+1) (most:=max pr.most (pr.deep+1)) (.inr ⟨rfl,Gq (Value.int .i64) emax,rfl⟩) fun Y hY sY=>⟨(),(cvE rfl rfl),hD.step hY sY⟩⟩
 clear hX X;rintro _ X hX;obtain⟨p2,hp2⟩:∃ p2:Pr,p2=ql { pr with deep:=pr.deep+1,most:=max pr.most (pr.deep+1) } [40]:=⟨_,rfl⟩;rw [<- hp2] at hR;have t2:p2.text.length=pr.text.length+1:=by rw [hp2,qx];rfl
 have d2:p2.deep=pr.deep+1:=by rw [hp2];rfl
 have m2:p2.most=max pr.most (pr.deep+1):=by rw [hp2];rfl
 have npos:=zaT t;refine⟨Unit,fun _=>⟨[(0,At0 wb),(4,At0 w.heap.size)],[]⟩,fun _ Y=>PrX w wb w.heap.size t q cap p2 Y,?_,?_⟩
 ·refine⟨⟨by decide,by decide,rfl⟩,[zn [40]],rfl,cmo (zaY (l:=[[40]]) hX.p rfl (by decide) (by show pr.text.length+(1+0)<=_;omega)) ?_⟩;rintro e Y ⟨rfl,hY,sY⟩;rw [hp2];exact⟨(),(cvE rfl rfl),hX.step hY sY⟩
 clear hX X;rintro _ X hX;have hle:=zcz t hv p2;refine⟨Unit,fun _=>⟨[(0,At0 wb),(4,At0 w.heap.size)],[]⟩,fun _ Y=>PrX w wb w.heap.size t q cap (prT p2 t) Y,?_,?_⟩
 ·refine⟨_,rfl,za hX.x,hlt hX.x,cmo (hT p2 q cap X hX.p hX.k (by omega) (by omega) (by omega)) ?_⟩;rintro e Y ⟨rfl,hY,sY⟩;exact⟨(),(cvE rfl rfl),hX.step hY sY⟩
 clear hX X;rintro _ X hX;obtain⟨l1,l2,l3,l4⟩:=hle;refine⟨Unit,fun _=>⟨[(0,At0 wb),(4,At0 w.heap.size)],[]⟩,fun _ Y=>PrX w wb w.heap.size t q cap (ql (prT p2 t) [41]) Y,?_,?_⟩
 ·refine⟨⟨by decide,by decide,rfl⟩,[zn [41]],rfl,cmo (zaY (l:=[[41]]) hX.p rfl (by decide) (by show (prT p2 t).text.length+(1+0)<=_;omega)) ?_⟩;rintro e Y ⟨rfl,hY,sY⟩;exact⟨(),(cvE rfl rfl),hX.step hY sY⟩
 clear hX X;rintro _ X hX;obtain⟨_,_,f,_⟩:=hX.p.f;refine⟨_,zc (za f) (i:=1) rfl,?_⟩;have e1:(ql (prT p2 t) [41]).deep=(prT p2 t).deep:=rfl;exact⟨(((prT p2 t).deep-1:Nat):Int),(zi (by rw [e1];omega)).trans (by rw [e1];omega),hX.p.num (deep:=(prT p2 t).deep-1) (most:=(ql (prT p2 t) [41]).most) (.inl ⟨rfl,rfl,rfl⟩) fun Y hY sY=>⟨rfl,by rw [hR];exact hY,hX.o.trans sY⟩⟩
end
section
variable {wb tb:Nat} {pr pr2:Pr} {w X Y Z:Wd}
theorem PrX.kid {t:Trm} {q:OA} {cap:Nat} (h:PrX w wb tb t q cap pr X) {i:Nat} (hi:i<t.kids.length) :
  ∃ b o q2 c2,q=some ⟨b,o,none⟩/\zo X ⟨b,o+i*3,none⟩ (zd t.kids[i] q2 c2)/\b<X.heap.size/\KidsT (fun b=>b<wb) X q2 t.kids[i].kids:=by
 obtain⟨_,b,o,hq,hcl⟩:=h.k.inv;obtain⟨q2,c2,_,_,hc,hk⟩:=hcl i hi;refine⟨b,o,q2,c2,by rcases hq with h | h;omega;exact h,hc,?_,hk⟩;have h0:=hc 0 _ rfl;unfold World.cell? at h0
 split at h0
 ·rename_i hb;exact hlt hb
 ·cases h0
theorem zqR {α:Type} {l:List α} (h:l.length=2):l=[l[0],l[1]]:=by
 match l,h with
 | [a,b],_=>rfl
theorem zq9 {α:Type} {l:List α} (h:l.length=1):l=[l[0]]:=by
 match l,h with
 | [a],_=>rfl
theorem znT {l:List Trm} (h:l.length=2):nodesK l=nodesT l[0]+nodesT l[1]:=by
 match l,h with
 | [a,b],_=>rw [nodesK,nodesK,nodesK];rfl
theorem znU {l:List Trm} (h:l.length=1):nodesK l=nodesT l[0]:=by
 match l,h with
 | [a],_=>rw [nodesK,nodesK];rfl
theorem zs4 {k:UInt8} {nq:Bs} {kids:List Trm} (hv:VT (.mk k nq kids)) (ih:∀ x∈kids,PrC wb x):PrC wb (.mk k nq kids):=by
 intro pr q cap w h hkd hlen hdp hms;refine z6 67 [At0 wb,.agg (zd (.mk k nq kids) q cap).toArray] (.c .p (.s .p (.b (.s .p (.d .p (.s .p (.d .p (.c .p (.d (.c .p .p) (.c .p (.c .p (.c .p .p)))))))))))) Tryz.func50 ?_;obtain⟨hk10,hkl,hnl,hkv⟩:=hv.inv;have hle0:=zcz _ hv pr;obtain⟨R,hR⟩:=nm (prT pr (.mk k nq kids));rw [<- hR] at hle0 ⊢;rw [prT] at hR;rw [nodesT] at hlen hdp;have hw:=h.lt;have nk:∀ m:UInt8,decide ((k.toNat:Int)=(m.toNat:Int))=decide (k=m):=fun m=>zaB k m;refine⟨Unit,fun _=>⟨[(0,At0 wb),(3,At0 w.heap.size)],[]⟩,fun _ X=>PrX w wb w.heap.size (.mk k nq kids) q cap pr X,⟨(),(cvE rfl rfl),h.below (zba _ _),zA w _,hkd.kept (zba _ _),.of_below (zba _ _) (by omega),by omega⟩,?_⟩;rintro _ X hX;refine⟨_,zc (za hX.x) (i:=0) rfl,biE (fun h1=>?_) fun h1=>?_⟩
 ·have h1:k=1:=dT ((nk 1).symm.trans h1);rw [Gx h1] at hR;refine⟨_,zc (za hX.x) (i:=1) rfl,⟨by decide,by decide,rfl⟩,[zn nq],rfl,cmo (zaY (l:=[nq]) hX.p rfl (by show 1<=10;decide) (by show pr.text.length+(nq.length+0)<=_;omega)) ?_⟩;rintro e Y ⟨rfl,hY,sY⟩;exact⟨rfl,by rw [hR];exact hY,hX.o.trans sY⟩
 have h1:k≠1:=dF ((nk 1).symm.trans h1);rw [Gw h1] at hR;refine biE (fun h9=>?_) fun h9=>?_
 ·have h9:k=9:=dT ((nk 9).symm.trans h9);rw [Gx h9] at hR;refine⟨_,zc (za hX.x) (i:=1) rfl,⟨by decide,by decide,rfl⟩,[zn [91],zn nq,zn [93]],rfl,cmo (zaY (l:=[[91],nq,[93]]) hX.p rfl (by show 3<=10;decide) (by show pr.text.length+(1+(nq.length+(1+0)))<=_;omega)) ?_⟩;rintro e Y ⟨rfl,hY,sY⟩;exact⟨rfl,by rw [hR];exact hY,hX.o.trans sY⟩
 have h9:k≠9:=dF ((nk 9).symm.trans h9);rw [Gw h9] at hR;refine⟨Bool,fun b=>⟨[(0,At0 wb),(3,At0 w.heap.size),(47,.bool b)],[]⟩,fun b Y=>X=Y/\(b=true->k=6\/k=7\/k=8)/\(b=false->¬ (k=6\/k=7\/k=8)),?_,?_⟩
 ·refine biE (fun h6=>?_) fun h6=>?_
  ·have h6':k=6:=dT ((nk 6).symm.trans h6);exact⟨true,⟨.cons rfl (.cons rfl (.cons (Gq (fun b=>some (Value.bool b)) h6) .nil)),rfl⟩,rfl,fun _ => .inl h6',fun h=>Gy h (by decide)⟩
  have h6':k≠6:=dF ((nk 6).symm.trans h6);refine biE (fun h7=>?_) fun h7=>?_
  ·have h7':k=7:=dT ((nk 7).symm.trans h7);exact⟨true,⟨.cons rfl (.cons rfl (.cons (Gq (fun b=>some (Value.bool b)) h7) .nil)),rfl⟩,rfl,fun _ => .inr (.inl h7'),fun h=>Gy h (by decide)⟩
  have h7':k≠7:=dF ((nk 7).symm.trans h7);refine⟨decide (k=8),⟨.cons rfl (.cons rfl (.cons (Gq (fun b=>some (Value.bool b)) (nk 8)) .nil)),rfl⟩,rfl,fun h => .inr (.inr (dT h)),fun h=>?_⟩;have h:=dF h;rintro (e | e | e)
  ·exact h6' e
  ·exact h7' e
  ·exact h e
 rintro b _ ⟨rfl,hbt,hbf⟩;refine biE (fun hb=>?_) fun hb=>?_
 ·
  have h68:=hbt hb;rw [Gx h68] at hR;have hl1:kids.length=1:=by
   rcases h68 with rfl | rfl | rfl
   all_goals
    have:(kids.length:Int)=1:=hkl;omega
  have hk0:0<(Trm.mk k nq kids).kids.length:=by show 0<kids.length;omega
  obtain⟨bk,o,q2,c2,rfl,hc,hbs,hk2⟩:=hX.kid hk0;have hc:zo X ⟨bk,o+0*3,none⟩ (zd kids[0] q2 c2):=hc;have hk2:KidsT (fun b=>b<wb) X q2 kids[0].kids:=hk2;have em:=zq9 hl1;have en:=znU hl1;have hv0:=hkv kids[0] (gM _);have hh:prHead pr 5 kids=prHead pr 5 (kids[0]::[]):=Gq (prHead pr 5) em;refine⟨Unit,fun _=>⟨[(0,At0 wb),(3,At0 w.heap.size)],[]⟩,fun _ Y=>PrX w wb w.heap.size (.mk k nq kids) (some ⟨bk,o,none⟩) cap (prHead pr 5 kids) Y,?_,?_⟩
  ·refine DrawE.ord [8] [0,1,2,3,4,5,6,7,8] (by kernel_rfl) ?_;have bD:=(Gh X.heap.size X).drew;have hD:=hX.step (hX.p.below bD) (.of_below bD (US hX.p.lt));refine⟨_,zc (za hD.x) (i:=2) rfl,0,rfl,by show 0<kids.length;omega,?_⟩;refine⟨zd kids[0] q2 c2,rfl,zw bD hc,hbs,5,rfl,by decide,?_⟩;refine⟨_,za1 hD.p.glob (k:=5) (by decide),((5:Nat):Int),(zi (by decide)).trans rfl,cmo (ziX hv0 (ih kids[0] (gM _)) (least:=5) (by decide) [] hD.p (hk2.kept bD) (by omega) (by omega) (by omega)) ?_⟩;rintro e Y ⟨rfl,hY,sY⟩;rw [<- hh] at hY;exact⟨(),(cvE rfl rfl),hD.step hY sY⟩
  clear hX hc hbs hk2;rintro _ Y hY;have hhl:=zeT (fun w=>zcz kids[0] hv0 w) pr 5 [];rw [<- hh] at hhl;have hsl:=zeo k.toNat;refine⟨_,zc (za hY.x) (i:=0) rfl,k.toNat,rfl,by omega,?_⟩;refine⟨_,by rw [Gd];exact zf7 hY.p.glob hk10,?_⟩;refine⟨⟨by decide,by decide,rfl⟩,[zn (jz.getD k.toNat [])],rfl,cmo (zaY (l:=[jz.getD k.toNat []]) hY.p rfl (by show 1<=10;decide) (by show (prHead pr 5 kids).text.length+((za2 k.toNat).length+0)<=_;omega)) ?_⟩;rintro e Z ⟨rfl,hZ,sZ⟩;exact⟨rfl,by rw [hR];exact hZ,hY.o.trans sZ⟩
 ·
  have h68:=hbf hb;rw [Gw h68] at hR;have hl2:kids.length=2/\2<=k.toNat/\k.toNat<=5:=by
   have key:∀ j:Fin 10,j.1≠1->j.1≠9->j.1≠6->j.1≠7->j.1≠8->j3 j.1=2/\2<=j.1/\j.1<=5\/j3 j.1 = -1:=by decide
   have nk:∀ (m:UInt8),k≠m->k.toNat≠m.toNat:=fun m h e=>h (Uh.1 e);rcases key ⟨k.toNat,hk10⟩ (nk 1 h1) (nk 9 h9) (nk 6 (fun e=>h68 (.inl e))) (nk 7 (fun e=>h68 (.inr (.inl e)))) (nk 8 (fun e=>h68 (.inr (.inr e)))) with h | h
   ·have h':j3 k.toNat=2:=h.1;exact⟨by omega,h.2⟩
   ·have h:j3 k.toNat = -1:=h;omega
  obtain⟨hl2,hk2',hk5⟩:=hl2;have es:zbw.getD k.toNat 0=qI k.toNat/\qI k.toNat<=4:=by
   have:∀ j:Fin 10,zbw.getD j.1 0=qI j.1/\qI j.1<=4:=by decide
   exact this ⟨_,hk10⟩
  obtain⟨es,es4⟩:=es;have em:=zqR hl2;have en:=znT hl2;have hv0:=hkv kids[0] (gM _);have hv1:=hkv kids[1] (gM _);obtain⟨n,hn⟩:=nm (qI k.toNat);rw [<- hn] at hR es es4;have hh:prHead pr n kids=prHead pr n (kids[0]::[kids[1]]):=Gq (prHead pr n) em;have hhl:=zeT (fun w=>zcz kids[0] hv0 w) pr n [kids[1]];rw [<- hh] at hhl;have hsl:=zeo k.toNat;obtain⟨a1,a2,a3,a4⟩:=hhl;refine⟨Unit,fun _=>⟨[(0,At0 wb),(3,At0 w.heap.size),(4,i64 (n:Nat))],[]⟩,fun _ Y=>X=Y,?_,?_⟩
  ·refine⟨_,zc (za hX.x) (i:=0) rfl,k.toNat,rfl,by omega,?_⟩;have hsa:=za1 hX.p.glob hk10;rw [es] at hsa;refine⟨_,by rw [Gd];exact hsa,?_⟩;exact⟨(),(cvE rfl rfl),rfl⟩
  rintro _ _ rfl;refine⟨Unit,fun _=>⟨[(0,At0 wb),(3,At0 w.heap.size),(4,i64 (n:Nat))],[]⟩,fun _ Y=>PrX w wb w.heap.size (.mk k nq kids) q cap (prHead pr n kids) Y,?_,?_⟩
  ·have hk0:0<(Trm.mk k nq kids).kids.length:=by show 0<kids.length;omega
   obtain⟨bk,o,q2,c2,rfl,hc,hbs,hk2⟩:=hX.kid hk0;have hc:zo X ⟨bk,o+0*3,none⟩ (zd kids[0] q2 c2):=hc;have hk2:KidsT (fun b=>b<wb) X q2 kids[0].kids:=hk2;refine⟨_,zc (za hX.x) (i:=2) rfl,0,rfl,by show 0<kids.length;omega,?_⟩;refine⟨zd kids[0] q2 c2,rfl,hc,hbs,cmo (ziX hv0 (ih kids[0] (gM _)) (least:=n) (by omega) [kids[1]] hX.p hk2 (by omega) (by omega) (by omega)) ?_⟩;rintro e Y ⟨rfl,hY,sY⟩;rw [<- hh] at hY;exact⟨(),(cvE rfl rfl),hX.step hY sY⟩
  clear hX;rintro _ Y hY;obtain⟨p3,hp3⟩:=nm (ql (ql (ql (prHead pr n kids) [32]) (za2 k.toNat)) [32]);rw [<- hp3] at hR;have t3:p3.text.length=(prHead pr n kids).text.length+1+(za2 k.toNat).length+1:=by rw [hp3,qx,qx,qx];rfl
  have d3:p3.deep=pr.deep:=by rw [hp3];exact a2
  have m3:p3.most=(prHead pr n kids).most:=by rw [hp3];rfl
  refine⟨Unit,fun _=>⟨[(0,At0 wb),(3,At0 w.heap.size),(4,i64 (n:Nat))],[]⟩,fun _ Y=>PrX w wb w.heap.size (.mk k nq kids) q cap p3 Y,?_,?_⟩
  ·refine⟨_,zc (za hY.x) (i:=0) rfl,k.toNat,rfl,by omega,?_⟩;refine⟨_,by rw [Gd];exact zf7 hY.p.glob hk10,?_⟩;refine⟨⟨by decide,by decide,rfl⟩,[zn [32],zn (jz.getD k.toNat []),zn [32]],rfl,cmo (zaY (l:=[[32],jz.getD k.toNat [],[32]]) hY.p rfl (by show 3<=10;decide) (by show (prHead pr n kids).text.length+(1+((za2 k.toNat).length+(1+0)))<=_;omega)) ?_⟩;rintro e Z ⟨rfl,hZ,sZ⟩;have hZ:PrB wb p3 Z:=by rw [hp3];exact hZ
   exact⟨(),(cvE rfl rfl),hY.step hZ sZ⟩
  clear hY Y;rintro _ Y hY;have hk1:1<(Trm.mk k nq kids).kids.length:=by show 1<kids.length;omega
  obtain⟨bk,o,q2,c2,rfl,hc,hbs,hk2⟩:=hY.kid hk1;have hc:zo Y ⟨bk,o+1*3,none⟩ (zd kids[1] q2 c2):=hc;have hk2:KidsT (fun b=>b<wb) Y q2 kids[1].kids:=hk2;refine⟨_,zc (za hY.x) (i:=2) rfl,1,rfl,by show 1<kids.length;omega,?_⟩;refine⟨zd kids[1] q2 c2,rfl,hc,hbs,nxI (by omega) (cmo (ziX hv1 (ih kids[1] (gM _)) (least:=n+1) (by omega) [] hY.p hk2 (by omega) (by omega) (by omega)) ?_)⟩;rintro e Z ⟨rfl,hZ,sZ⟩;refine⟨rfl,?_,hY.o.trans sZ⟩;rw [hR,show prTail p3 (n+1) kids=prTail p3 (n+1) [kids[0],kids[1]] from Gq (prTail p3 (n+1)) em,prTail];exact hZ
theorem zpc:∀ t,VT t->PrC wb t
 | .mk k nq kids,hv=>zs4 hv fun x hx=>zpc x (hv.inv.2.2.2 x hx)
end
end Go.Proofs.YtnadlhpkpnfmbaaGreatDoor
namespace Go.Proofs.YtnadlhpkpnfmbaaGreatDoor
open Go.Vc
def zbW:List LineD->Nat
 | []=>0
 | x::r=>nodesT x.term+zbW r
theorem ziq {s:Bs} (h:jh s=true):s.length<=16:=by
 unfold jh at h;rw [bAT,bAT] at h;exact dT h.2.1
theorem zoU {f:Bs->Bool} {nq:Bs} (h:∀ s,f s=true->s.length<=16) (hn:nq.length<=16):∀ s,za3 f nq s=true->s.length<=16:=fun s hs=>by
 unfold za3 at hs;rw [QI] at hs;rcases hs with hs | hs
 ·rw [dT hs];exact hn
 ·exact h s hs
theorem zdd:∀ (ls:List LineD) (lets checks:Bs->Bool) (n:Nat) (lets':Bs->Bool),(∀ s,lets s=true->s.length<=16)->n<=400->qe lets checks n ls=(true,lets') ->
  (∀ x∈ls,x.kind<=3/\x.name.length<=16/\VT x.term)/\n+zbW ls<=400/\(∀ s,lets' s=true->s.length<=16)
 | [],lets,checks,n,lets',hl,hn,h=>by
  rw [qe] at h;refine⟨fun x hx=>?_,by rw [zbW];exact hn,?_⟩
  ·cases hx
  ·rw [<- (Gf h).2];exact hl
 | l::r,lets,checks,n,lets',hl,hn,h=>by
  rw [qe] at h
  split at h
  ·cases h
  ·rename_i hc;have hk:l.kind<=3:=Jn fun h=>hc (.inl (by omega));have hnm:jh l.name=true:=by
    cases hnb:jh l.name with
    | true=>rfl
    | false=>exact Gy (.inr hnb) hc
   have hnl:=ziq hnm
   split at h
   ·cases h
   ·rename_i n2 e;obtain⟨hv,hn2⟩:=zfA lets hl l.term n n2 e;have hm:=(ze1 lets n l.term).2 (by rw [e]);rw [e] at hm;have hm:n2<=400:=hm;have fin:∀ {a b:Bs->Bool},(∀ s,a s=true->s.length<=16)->qe a b n2 r=(true,lets')->(∀ x∈l::r,x.kind<=3/\x.name.length<=16/\VT x.term)/\n+zbW (l::r)<=400/\(∀ s,lets' s=true->s.length<=16):=fun {a b} ha hr=>by
     obtain⟨i1,i2,i3⟩:=zdd r a b n2 lets' ha hm hr;refine⟨fun x hx=>?_,by rw [zbW];omega,i3⟩;rcases UF.1 hx with rfl | hx
     ·exact⟨hk,hnl,hv⟩
     ·exact i1 x hx
    split at h
    ·split at h
     ·cases h
     ·exact fin (zoU hl hnl) h
    ·split at h
     ·cases h
     ·exact fin hl h
end Go.Proofs.YtnadlhpkpnfmbaaGreatDoor
namespace Go.Proofs.YtnadlhpkpnfmbaaGreatDoor
open Go.Vc Go.RowKit Go.Sei
theorem zkd (k:Nat):(zS.getD k []).length<=11:=by
 rcases Nat.lt_or_ge k 4 with h | h
 ·have:∀ j:Fin 4,(zS.getD j.1 []).length<=11:=by decide
  exact this ⟨k,h⟩
 ·rw [gDe,JJ (by simpa [zS] using h)];decide
theorem znI {l:LineD} (hv:VT l.term) (hn:l.name.length<=16) (w:Pr):(zah w l).text.length<=w.text.length+24*nodesT l.term+60/\(zah w l).deep=w.deep/\(zah w l).most<=max w.most (w.deep+nodesT l.term):=by
 have ho:=zkd l.kind;unfold zah;dsimp only
 split
 ·obtain⟨h1,h2,h3,h4⟩:=zcz l.term hv (ql (ql (ql (ql w (zS.getD l.kind [])) [32]) l.name) [32,61,32]);simp only [qx,Qt,QR] at h1 ⊢;exact⟨by omega,h2,h3⟩
 ·obtain⟨h1,h2,h3,h4⟩:=zcz l.term hv (ql (ql w (zS.getD l.kind [])) [32]);simp only [qx,Qt,QR] at h1 ⊢;exact⟨by omega,h2,h3⟩
section
variable {wb lb:Nat} {pr pr2:Pr} {w X Y Z:Wd}
structure PrL (w:Wd) (wb lb:Nat) (ln:LineD) (q:OA) (cap:Nat) (pr:Pr) (X:Wd):Prop where
 p:PrB wb pr X
 x:X.heap[lb]?=some (.cells (zz ln.kind ln.name ln.term q cap).toArray 49 (0,0))
 k:KidsT (fun b=>b<wb) X q ln.term.kids
 o:PrS wb w X
 ne:lb≠wb
theorem PrL.step {x:LineD} {q:OA} {cap:Nat} (h:PrL w wb lb x q cap pr X) (hY:PrB wb pr2 Y) (s:PrS wb X Y):PrL w wb lb x q cap pr2 Y :=
 ⟨hY,(s.block lb _ _ h.ne (by decide) h.x).trans h.x,h.k.by fun b cs ty fr hb hc=>s.low b hb,h.o.trans s,h.ne⟩
theorem znO (hg:GlobK w) {k:Nat} (hk:k<=3):w.cell? ⟨3,0+k,none⟩=some (zn (zS.getD k [])):=by
 refine zc hg.op ?_;have hk:k<zS.length:=by show k<4;omega
 rw [KU,gE hk,gDe,gE hk];rfl
theorem zpd {x:LineD} (hv:VT x.term) (hn:x.name.length<=16) (hk3:x.kind<=3) {q:OA} {cap:Nat} (h:PrB wb pr w) (hk:KidsT (fun b=>b<wb) w q x.term.kids) (hlen:pr.text.length+40*nodesT x.term+100<=900000) (hd:pr.deep+nodesT x.term<=1000) (hm:pr.most<=1000) :
  Calls PG 92 #[At0 wb,.agg (zz x.kind x.name x.term q cap).toArray] w fun e Y=>e = .returned (jI [])/\PrB wb (zah pr x) Y/\PrS wb w Y:=by
 refine z6 35 [At0 wb,.agg (zz x.kind x.name x.term q cap).toArray] (.c .p (.c .p (.c (.s .p (.d (.c .p .p) (.c .p .p))) .p))) Tryz.func92 ?_;have hw:=h.lt;have hol:=zkd x.kind;obtain⟨R,hR⟩:=nm (zah pr x);rw [<- hR];unfold zah at hR;dsimp only at hR;refine⟨Unit,fun _=>⟨[(0,At0 wb),(3,At0 w.heap.size)],[]⟩,fun _ X=>PrL w wb w.heap.size x q cap pr X,⟨(),(cvE rfl rfl),h.below (zba _ _),zA w _,hk.kept (zba _ _),.of_below (zba _ _) (by omega),by omega⟩,?_⟩;rintro _ X hX;obtain⟨p1,hp1⟩:=nm (ql (ql pr (zS.getD x.kind [])) [32]);rw [<- hp1] at hR;have t1:p1.text.length=pr.text.length+(zS.getD x.kind []).length+1:=by rw [hp1,qx,qx];rfl
 have d1:p1.deep=pr.deep:=by rw [hp1];rfl
 have m1:p1.most=pr.most:=by rw [hp1];rfl
 refine⟨Unit,fun _=>⟨[(0,At0 wb),(3,At0 w.heap.size)],[]⟩,fun _ X=>PrL w wb w.heap.size x q cap p1 X,?_,?_⟩
 ·refine⟨_,zc (za hX.x) (i:=0) rfl,x.kind,rfl,by omega,?_⟩;refine⟨_,by rw [Gd];exact znO hX.p.glob hk3,?_⟩;refine⟨⟨by decide,by decide,rfl⟩,[zn (zS.getD x.kind []),zn [32]],rfl,cmo (zaY (l:=[zS.getD x.kind [],[32]]) hX.p rfl (by show 2<=10;decide) (by show pr.text.length+((zS.getD x.kind []).length+(1+0))<=_;omega)) ?_⟩;rintro e Y ⟨rfl,hY,sY⟩;have hY:PrB wb p1 Y:=by rw [hp1];exact hY
  exact⟨(),(cvE rfl rfl),hX.step hY sY⟩
 clear hX X;rintro _ X hX;refine⟨Pr,fun _=>⟨[(0,At0 wb)],[]⟩,fun p2 X=>PrB wb p2 X/\PrS wb w X/\R=ql p2 [10]/\p2.text.length<=950000,?_,?_⟩
 ·have ht:∀ {Z:Wd} {pz:Pr},PrL w wb w.heap.size x q cap pz Z->zo Z ⟨w.heap.size,0+2,none⟩ (zd x.term q cap):=fun {Z pz} hZ=>qz (o:=2) (n:=3) hZ.x;refine⟨_,zc (za hX.x) (i:=0) rfl,biE (fun h1=>?_) fun h1=>?_⟩
  ·have h1:(x.kind:Int)=0:=dT h1;rw [Gx (by omega)] at hR;obtain⟨p2,hp2⟩:=nm (ql (ql p1 x.name) [32,61,32]);rw [<- hp2] at hR;have t2:p2.text.length=p1.text.length+x.name.length+3:=by rw [hp2,qx,qx];rfl
   have d2:p2.deep=p1.deep:=by rw [hp2];rfl
   have m2:p2.most=p1.most:=by rw [hp2];rfl
   refine⟨Unit,fun _=>⟨[(0,At0 wb),(3,At0 w.heap.size)],[]⟩,fun _ X=>PrL w wb w.heap.size x q cap p2 X,?_,?_⟩
   ·refine⟨_,zc (za hX.x) (i:=1) rfl,⟨by decide,by decide,rfl⟩,[zn x.name,zn [32,61,32]],rfl,cmo (zaY (l:=[x.name,[32,61,32]]) hX.p rfl (by show 2<=10;decide) (by show p1.text.length+(x.name.length+(3+0))<=_;omega)) ?_⟩;rintro e Y ⟨rfl,hY,sY⟩;have hY:PrB wb p2 Y:=(by rw [hp2];exact hY);exact⟨(),(cvE rfl rfl),hX.step hY sY⟩
   clear hX X;rintro _ X hX;have hle:=zcz x.term hv p2;refine⟨zd x.term q cap,rfl,ht hX,hlt hX.x,cmo (zpc x.term hv p2 q cap X hX.p hX.k (by omega) (by omega) (by omega)) ?_⟩;rintro e Y ⟨rfl,hY,sY⟩;exact⟨prT p2 x.term,(cvE rfl rfl),hY,hX.o.trans sY,hR,by have:=hle.1;omega⟩
  ·have h1:¬ (x.kind:Int)=0:=dF h1;rw [Gw (by omega)] at hR;have hle:=zcz x.term hv p1;refine⟨Unit,fun _=>⟨[(0,At0 wb),(3,At0 w.heap.size)],[]⟩,fun _ X=>PrL w wb w.heap.size x q cap (prT p1 x.term) X,?_,?_⟩
   ·refine⟨zd x.term q cap,rfl,ht hX,hlt hX.x,cmo (zpc x.term hv p1 q cap X hX.p hX.k (by omega) (by omega) (by omega)) ?_⟩;rintro e Y ⟨rfl,hY,sY⟩;exact⟨(),(cvE rfl rfl),hX.step hY sY⟩
   clear hX X;rintro _ X hX;have l1:=hle.1;refine⟨_,zc (za hX.x) (i:=1) rfl,⟨by decide,by decide,rfl⟩,[zn [32,97,115,32],zn x.name],rfl,cmo (zaY (l:=[[32,97,115,32],x.name]) hX.p rfl (by show 2<=10;decide) (by show (prT p1 x.term).text.length+(4+(x.name.length+0))<=_;omega)) ?_⟩;rintro e Y ⟨rfl,hY,sY⟩;exact⟨ql (ql (prT p1 x.term) [32,97,115,32]) x.name,(cvE rfl rfl),hY,hX.o.trans sY,hR,by rw [qx,qx];show (prT p1 x.term).text.length+4+x.name.length<=_;omega⟩
 clear hX X;rintro p2 X ⟨hX,sX,hR,hl2⟩;refine⟨⟨by decide,by decide,rfl⟩,[zn [10]],rfl,cmo (zaY (l:=[[10]]) hX rfl (by decide) (by show p2.text.length+(1+0)<=_;omega)) ?_⟩;rintro e Y ⟨rfl,hY,sY⟩;exact⟨rfl,by rw [hR];exact hY,sX.trans sY⟩
def zvp (r:Option (Bs×(Bs->Bool))) (w:Wd) (e:Ending) (w':Wd):Prop :=
 Bw w w'/\(r=none->e = .returned (.tuple #[zn [],.map none,.bool false]))/\∀ x,r=some x->∃ l,e = .returned (.tuple #[zn x.1,.map (some l),.bool true])/\MapF zbq w' l (zeL x.2)/\w.heap.size<=l
theorem PrS.below (h:PrS wb X Y) (hw:w.heap.size<=wb):Below w.heap.size X Y:=⟨h.os,h.tape,h.output,h.size,fun j hj=>h.low j (by omega)⟩
theorem zsy {ls:List LineD} {p:OA} {cap:Nat} (hg:GlobK w) (hM:LinsM (fun _=>True) w p ls) (hlen:ls.length<=140737488351232) :
  Calls PG 48 #[.agg #[.slice p ls.length cap]] w (zvp (jt ls) w):=by
 refine z6 43 [.agg #[.slice p ls.length cap]] (.c .p (.c .p (.c .p (.c .p (.c (.s .p (.b (.l (.s .p (.s .p (.s (.b (.c .p .p)) .p)))))) (.c .p .p)))))) Tryz.func48 ?_;obtain⟨R,hR⟩:=nm (jt ls);rw [<- hR];unfold jt at hR;have hgl:=hg.lt;refine⟨Unit,fun _=>⟨[(1,At0 w.heap.size)],[]⟩,fun _ X=>X.heap[w.heap.size]?=some (.cells #[.slice p ls.length cap] 47 (0,0))/\Bw w X/\X.heap.size=w.heap.size+1,⟨(),(cvE rfl rfl),zA w _,zba _ _,wz _ _⟩,?_⟩;rintro _ X ⟨f1,b1,n1⟩;refine⟨Unit,fun _=>⟨[(1,At0 w.heap.size),(5,At0 (w.heap.size+2))],[]⟩,fun _ X=>X.heap[w.heap.size]?=some (.cells #[.slice p ls.length cap] 47 (0,0))/\Bw w X/\ChkB (w.heap.size+2) (w.heap.size+1) (fun _=>false) 0 X,?_,?_⟩
 ·refine⟨Value.map (some X.heap.size),X.alloc (.map #[] 0),rfl,?_⟩;have m3:MapF (key:=zbq) (X.alloc (.map #[] 0)) X.heap.size (fun (_:Bs)=>none):=MapF.new;obtain⟨Y,e3⟩:=nm (X.alloc (.map #[] 0));have n3:Y.heap.size=w.heap.size+2:=by rw [e3,wz,n1]
  have b3:Bw X Y:=by rw [e3];exact zba _ _
  rw [<- e3] at m3 ⊢;refine⟨[.map (some X.heap.size),i64 0],rfl,?_⟩;have f5:=zA Y (.cells #[.map (some X.heap.size),i64 0] 110);have b5:=zba Y (.cells #[.map (some X.heap.size),i64 0] 110);have bAll:=zst b1 (zst b3 b5);refine⟨(),⟨.cons rfl (.cons ?_ .nil),rfl⟩,?_⟩
  ·show some (At0 Y.heap.size)=_;rw [n3]
  show _/\_;rw [n3] at f5;rw [n1] at f5 b5 m3 bAll ⊢;exact⟨zb b5 (zb b3 f1),bAll,f5,m3.below b5,by omega,by omega,by omega,hg.below bAll⟩
 clear f1 b1 n1 X;rintro _ X ⟨f1,b1,hC⟩;have none_:∀ {Z:Wd},R=none->Bw w Z->zvp R w (.returned (.tuple #[zn [],.map none,.bool false])) Z:=fun {Z} hR hb=>⟨hb,fun _=>rfl,fun x hx=>by rw [hR] at hx;cases hx⟩;refine⟨(Bs->Bool)×Nat,fun _=>⟨[(1,At0 w.heap.size),(5,At0 (w.heap.size+2))],[]⟩,fun y X=>X.heap[w.heap.size]?=some (.cells #[.slice p ls.length cap] 47 (0,0))/\Bw w X/\ChkB (w.heap.size+2) (w.heap.size+1) y.1 y.2 X/\ls.length<=40/\qe (fun _=>false) (fun _=>false) 0 ls=(true,y.1),?_,?_⟩
 ·refine⟨_,zc (za f1) (i:=0) rfl,cmo (zrm (w0:=w) (cap:=cap) hM hlen hC (Ge _) b1 (by omega) (by omega)) ?_⟩;rintro e Y ⟨lets',m,rfl,hl,hY,oY,bY⟩;have fY:=(oY.block _ (hlt f1) (by omega) (by omega) (by omega)).trans f1;refine biE (fun h=>?_) fun h=>?_
  ·have h:(!(decide (ls.length<=40)&&(qe (fun _=>false) (fun _=>false) 0 ls).1))=true:=h;refine none_ ?_ bY;rw [hR];by_cases h4:ls.length > 40
   ·rw [Gx h4]
   ·rw [Gw h4];rw [Ut (by omega),Uz] at h;rcases hc:qe (fun _=>false) (fun _=>false) 0 ls with ⟨b,lets⟩;rw [hc] at h
    cases b with
    | true=>cases h
    | false=>rfl
  ·have h:(!(decide (ls.length<=40)&&(qe (fun _=>false) (fun _=>false) 0 ls).1))=false:=h;have h:(decide (ls.length<=40)&&(qe (fun _=>false) (fun _=>false) 0 ls).1)=true:=by simpa using h
   rw [bAT,dE] at h;refine⟨(lets',m),(cvE rfl rfl),fY,bY,hY,h.1,?_⟩;rw [hl h.1 h.2,<- h.2]
 clear f1 b1 hC X;rintro⟨lets,m⟩ X ⟨f1,b1,hC,h40,hcl⟩;dsimp only at hC hcl ⊢;rw [Gw (by omega),hcl] at hR;dsimp only at hR;obtain⟨hval,hnod,hshort⟩:=zdd ls _ _ 0 lets (fun s h=>by cases h) (by decide) hcl;obtain⟨rows,hrl,zb7,hrk,_⟩:=hM;have hrn:rows.length=ls.length:=by rw [<- hrl,QQ]
 have hkb:=hC.lt;refine⟨Nat,fun wb=>⟨[(1,At0 w.heap.size),(5,At0 (w.heap.size+2)),(6,At0 wb)],[]⟩,fun wb X=>X.heap[w.heap.size]?=some (.cells #[.slice p ls.length cap] 47 (0,0))/\Bw w X/\ChkB (w.heap.size+2) (w.heap.size+1) lets m X/\PrB wb ⟨[],0,0⟩ X/\w.heap.size+2<wb,?_,?_⟩
 ·exact⟨X.heap.size,(cvE rfl rfl),zb (zba _ _) f1,b1.trans ((zba X _).mono b1.size),hC.below (zba _ _),⟨⟨none,0,zA X _,.nil⟩,by omega,hC.glob.below (zba _ _)⟩,hkb⟩
 clear f1 b1 hC hkb X;rintro wb X ⟨f1,b1,hC,hP,hwb⟩;obtain⟨W,hW⟩:=nm (ls.foldl zah ⟨[],0,0⟩);rw [<- hW] at hR;refine⟨Unit,fun _=>⟨[(5,At0 (w.heap.size+2)),(6,At0 wb)],[]⟩,fun _ X=>Bw w X/\ChkB (w.heap.size+2) (w.heap.size+1) lets m X/\PrB wb W X,?_,?_⟩
 ·refine⟨_,zc (za f1) (i:=0) rfl,Nat×Pr,fun y=>⟨[(5,At0 (w.heap.size+2)),(6,At0 wb),(18,.slice p ls.length cap),(19,i64 (ls.length:Nat)),(20,.int .i64 (y.1:Nat))],[]⟩,fun y X=>Bw w X/\ChkB (w.heap.size+2) (w.heap.size+1) lets m X/\PrB wb y.2 X/\y.1<=ls.length/\W=(ls.drop y.1).foldl zah y.2/\y.2.text.length+24*zbW (ls.drop y.1)+60*(ls.length-y.1)<=13000/\y.2.deep=0/\y.2.most<=600,fun y=>ls.length-y.1,(0,⟨[],0,0⟩),(cvE rfl rfl),⟨b1,hC,hP,Ge _,hW,?_,rfl,Ge _⟩,?_⟩
  ·show 0+24*zbW ls+60*(ls.length-0)<=13000;omega
  clear f1 b1 hC hP hW X;rintro⟨i,pr⟩ X ⟨b1,hC,hP,hi,hW,hbd,hdp,hms⟩;dsimp only at hP hi hW hbd hdp hms ⊢;refine biE (fun hc=>?_) fun hc=>?_
  ·have hc:(i:Int)<(ls.length:Int):=dT hc;have hil:i<ls.length:=by omega
   have hir:i<rows.length:=by omega
   obtain⟨x,hx⟩:=nm (ls[i]);have hxr:rows[i].1=x:=by
    rw [hx];have:(rows.map (·.1))[i]?=ls[i]?:=(by rw [hrl]);rw [KU,gE hir,gE hil] at this;exact Ug this
   have hdrop:ls.drop i=x::ls.drop (i+1):=by rw [hx];exact Jo hil
   rw [hdrop] at hW hbd;rw [QO] at hW;rw [zbW] at hbd;obtain⟨v1,v2,v3⟩:=hval x (by rw [hx];exact gM hil);obtain⟨bk,o,hp,hbk,hcl2⟩:=zb7.at hir;subst hp;obtain⟨k1,k2,k3,k4⟩:=hrk rows[i] (gM hir);have hcell:zo w ⟨bk,o+i*5,none⟩ (zz rows[i].1.kind rows[i].1.name rows[i].1.term rows[i].2.1 rows[i].2.2):=hcl2 i hir;rw [hxr] at hcell k4;obtain⟨q,hq⟩:=nm (rows[i].2.1);obtain⟨cp,hcp⟩:=nm (rows[i].2.2);rw [<- hq,<- hcp] at hcell;rw [<- hq] at k4;have kd:KidsT (fun b=>b<w.heap.size) w q x.term.kids:=k4.there.weak fun b hb=>hb.2;refine⟨Nat,fun lb=>⟨[(5,At0 (w.heap.size+2)),(6,At0 wb),(8,At0 lb),(18,.slice (some ⟨bk,o,none⟩) ls.length cap),(19,i64 (ls.length:Nat)),(20,.int .i64 (i:Nat))],[]⟩,fun lb Y=>Bw w Y/\ChkB (w.heap.size+2) (w.heap.size+1) lets m Y/\PrB wb pr Y/\Y.heap[lb]?=some (.cells (zz x.kind x.name x.term q cp).toArray 49 (0,0)),?_,?_⟩
   ·exact⟨i,rfl,hil,zz x.kind x.name x.term q cp,rfl,qT b1 hbk hcell,nL hbk b1.size,zk (X:=X) (v := .agg (zz x.kind x.name x.term q cp).toArray) k49 rfl rfl rfl fun Y hbY fY sY=>⟨X.heap.size,(cvE rfl rfl),(zst b1 hbY),hC.below hbY,hP.below hbY,fY⟩⟩
   clear b1 hC hP hcell X;rintro lb X ⟨b1,hC,hP,fx⟩;refine⟨_,rfl,za fx,hlt fx,?_⟩;have kX:KidsT (fun b=>b<wb) X q x.term.kids:=(kd.by fun b cs ty fr hb hc=>b1.block b hb).weak fun b hb=>by omega
   have hle:=znI v3 v2 pr;refine cmo (zpd v3 v2 v1 (cap:=cp) hP kX (by omega) (by omega) (by omega)) ?_;rintro e Y ⟨rfl,hY,sY⟩;refine nxI (by omega) ?_;have lw:∀ {j},j<wb->Y.heap[j]?=X.heap[j]?:=fun {j} hj=>sY.low j hj;refine⟨(i+1,zah pr x),(cvE rfl rfl),⟨b1.trans (sY.below (by omega)),⟨(lw (by omega)).trans hC.f,hC.lm.same (lw (by omega)),hC.ne,hC.og,hC.ol,hY.glob⟩,hY,hil,hW,by dsimp only;omega,by dsimp only;omega,by dsimp only;omega⟩,by dsimp only;omega⟩
  ·have hc:¬ (i:Int)<(ls.length:Int):=dF hc;rw [JA (by omega),List.foldl_nil] at hW;exact⟨(),(cvE rfl rfl),b1,hC,by rw [hW];exact hP⟩
 clear f1 b1 hC hP X;rintro _ X ⟨b1,hC,hP⟩;obtain⟨q,c2,f,ow⟩:=hP.f;refine⟨Unit,fun _=>⟨[(5,At0 (w.heap.size+2)),(6,At0 wb)],[]⟩,fun _ Y=>X=Y/\¬ (W.text.length > 8192\/W.most > 50),?_,?_⟩
 ·refine⟨_,zc (za f) (i:=0) rfl,biE (fun h=>?_) fun h=>?_⟩
  ·have h:(8192:Int)<(W.text.length:Int):=dT h;exact brT (none_ (by rw [hR,Gx (.inl (by omega))]) b1)
  have h:¬ (8192:Int)<(W.text.length:Int):=dF h;refine⟨_,zc (za f) (i:=2) rfl,biE (fun h2=>?_) fun h2=>?_⟩
  ·have h2:(50:Int)<(W.most:Int):=dT h2;exact none_ (by rw [hR,Gx (.inr (by omega))]) b1
  ·have h2:¬ (50:Int)<(W.most:Int):=dF h2;exact⟨(),(cvE rfl rfl),rfl,by rintro (h | h) <;> omega⟩
 rintro _ _ ⟨rfl,hno⟩;rw [Gw hno] at hR;refine DrawE.ord [] [0,1,2,3,4,5,6,7,8,9] (by kernel_rfl) ?_;have bD:=(Gh X.heap.size X).drew;have fD:=zb bD f;have hD:=hC.below bD;have oD:=ow.below bD;refine⟨_,zc (za fD) (i:=0) rfl,_,fun w2 hb=>zqb oD.row w2 hb,_,zc (za hD.f) (i:=0) rfl,(zst b1 bD),(fun h=>by rw [hR] at h;cases h),fun x hx=>?_⟩;rw [hR] at hx;obtain rfl:=Ug hx;exact⟨w.heap.size+1,rfl,hD.lm,by omega⟩
end
section
variable {w:Wd} {ls:List LineD} {p:OA} {cap:Nat}
theorem ze8 (hg:GlobK w) (hM:LinsM (fun _=>True) w p ls) (hlen:ls.length<=140737488351232) :
  CB 35 #[.agg #[.slice p ls.length cap]] w (.tuple #[zn (((jt ls).map (·.1)).getD []),i64 (if (jt ls).isSome then 0 else 2)]):=by
 refine z6 16 [.agg #[.slice p ls.length cap]] (.c .p .p) Tryz.func35 ?_;refine⟨Unit,fun _=>⟨[(1,At0 w.heap.size)],[]⟩,fun _ X=>X.heap[w.heap.size]?=some (.cells #[.slice p ls.length cap] 47 (0,0))/\Bw w X,⟨(),(cvE rfl rfl),zA w _,zba _ _⟩,?_⟩;rintro _ X ⟨f1,b1⟩;have hX:=hM.below b1;refine⟨_,rfl,za f1,hlt f1,cmo (zsy (cap:=cap) (hg.below b1) hX hlen) ?_⟩;rintro e Y ⟨bY,hno,hyes⟩;have b2:=zst b1 bY
 cases he:jt ls with
 | none =>
  obtain rfl:=hno he;exact brT ⟨rfl,b2⟩
 | some x =>
  obtain⟨l,rfl,_,_⟩:=hyes x he;exact brF ⟨rfl,b2⟩
theorem zeh (hg:GlobK w) (hM:LinsM (fun _=>True) w p ls) (hlen:ls.length<=140737488351232) :
  CB 28 #[.agg #[.slice p ls.length cap]] w (.bool (jt ls).isSome):=by
 refine z6 13 [.agg #[.slice p ls.length cap]] (.c .p .p) Tryz.func28 ?_;refine⟨Unit,fun _=>⟨[(1,At0 w.heap.size)],[]⟩,fun _ X=>X.heap[w.heap.size]?=some (.cells #[.slice p ls.length cap] 47 (0,0))/\Bw w X,⟨(),(cvE rfl rfl),zA w _,zba _ _⟩,?_⟩;rintro _ X ⟨f1,b1⟩;have hX:=hM.below b1;refine⟨_,rfl,za f1,hlt f1,cmo (zsy (cap:=cap) (hg.below b1) hX hlen) ?_⟩;rintro e Y ⟨bY,hno,hyes⟩;have b2:=zst b1 bY
 cases he:jt ls with
 | none =>
  obtain rfl:=hno he;exact⟨rfl,b2⟩
 | some x =>
  obtain⟨l,rfl,_,_⟩:=hyes x he;exact⟨rfl,b2⟩
theorem zgb (hg:GlobK w) (s:Bs) (hs:s.length<=140737488351232):Calls PG 45 #[zn s] w fun e w'=>∃ p cap,e = .returned (.agg #[.slice p ((zV s).1.getD []).length cap])/\LinsM (fun b=>w.heap.size<=b) w' p ((zV s).1.getD [])/\((zV s).1.getD []).length<=40/\Bw w w':=by
 refine z6 13 [zn s] (.c .p (.c .p .p)) Tryz.func45 ?_;refine⟨Unit,fun _=>⟨[(0,zn s),(2,At0 w.heap.size)],[]⟩,fun _ X=>X.heap[w.heap.size]?=some (.cells #[.slice none 0 0] 47 (0,0))/\Bw w X,⟨(),(cvE rfl rfl),zA w _,zba _ _⟩,?_⟩;rintro _ X ⟨f1,b1⟩;refine⟨Nat×OA×Nat,fun y=>⟨[(2,At0 w.heap.size),(3,At0 y.1)],[]⟩,fun y X=>X.heap[w.heap.size]?=some (.cells #[.slice none 0 0] 47 (0,0))/\X.heap[y.1]?=some (.cells #[.slice y.2.1 ((zV s).1.getD []).length y.2.2] 47 (0,0))/\LinsM (fun b=>w.heap.size<b) X y.2.1 ((zV s).1.getD [])/\((zV s).1.getD []).length<=40/\Bw w X,?_,?_⟩
 ·refine cmo (zcO (hg.below b1) s hs) ?_;rintro e Y ⟨⟨p,cap,rfl,h40,hM⟩,bY⟩;have fY:=zb bY f1;refine zk (X:=Y) (v := .agg #[.slice p ((zV s).1.getD []).length cap]) k47 rfl rfl rfl fun Z hbZ fZ sZ=>?_;have h0:=hlt f1;have b2:=zst b1 bY;exact⟨(Y.heap.size,p,cap),(cvE rfl rfl),zb hbZ fY,fZ,(hM.below hbZ).weak fun b hb=>by omega,h40,(zst b2 hbZ)⟩
 clear f1 b1 X;rintro⟨tb,p,cap⟩ X ⟨f1,ft,hM,h40,b1⟩;dsimp only at ft hM ⊢;exact⟨_,rfl,za ft,hlt ft,zy (v := .agg #[.slice p ((zV s).1.getD []).length cap]) k47 f1 rfl rfl rfl ⟨[.slice p ((zV s).1.getD []).length cap],rfl,za (zq f1),p,cap,rfl,(hM.by fun b cs ty fr hb hc=>zt (by omega)).weak fun b hb=>by omega,h40,zl b1 (Gc _) _⟩⟩
theorem zjg (hg:GlobK w) (s:Bs) (hs:s.length<=140737488351232) (er:Int) (at_:Nat):CB 47 #[zn s,i64 er,i64 (at_:Nat)] w (.bool (decide ((zV s).2.2=er)&&(decide ((zV s).2.1=at_)&&decide ((zV s).1.getD []=[])))):=by
 refine z6 30 [zn s,i64 er,i64 (at_:Nat)] (.s .p (.c .p .p)) Tryz.func47 ?_;refine⟨Nat×OA×Nat,fun y=>⟨[(1,i64 er),(2,i64 (at_:Nat)),(7,At0 y.1),(8,i64 ((zV s).2.1:Nat)),(9,i64 (zV s).2.2)],[]⟩,fun y X=>X.heap[y.1]?=some (.cells #[.slice y.2.1 ((zV s).1.getD []).length y.2.2] 47 (0,0))/\Bw w X,?_,?_⟩
 ·refine cmo (zcO hg s hs) ?_;rintro e Y ⟨⟨p,cap,rfl,h40,hM⟩,bY⟩;exact zk (X:=Y) (v := .agg #[.slice p ((zV s).1.getD []).length cap]) k47 rfl rfl rfl fun Z hbZ fZ sZ=>⟨(Y.heap.size,p,cap),(cvE rfl rfl),fZ,(zst bY hbZ)⟩
 rintro⟨tb,p,cap⟩ X ⟨ft,b1⟩;dsimp only at ft ⊢;refine biE (fun h1=>?_) fun h1=>?_
 ·have h1:decide ((zV s).2.2=er)=true:=h1;rw [h1,Uz];refine biE (fun h2=>?_) fun h2=>?_
  ·have h2:decide ((zV s).2.1=at_)=true:=zP.symm.trans h2;rw [h2,Uz];refine⟨_,zc (za ft) (i:=0) rfl,rb ?_,b1⟩;show decide ((((zV s).1.getD []).length:Int)=0)=_;rw [QH];constructor
   ·intro h;exact Jf (by omega)
   ·intro h;rw [h];rfl
  ·have h2:decide ((zV s).2.1=at_)=false:=zP.symm.trans h2;exact⟨rb (by rw [h2];rfl),b1⟩
 ·have h1:decide ((zV s).2.2=er)=false:=h1;exact brF ⟨rb (by rw [h1];rfl),b1⟩
end
mutual
def sameT:Trm->Trm->Bool
 | .mk k n l,.mk k2 n2 l2=>decide (k=k2)&&(decide (n=n2)&&(decide (l.length=l2.length)&&sameK l l2))
def sameK:List Trm->List Trm->Bool
 | [],_=>true
 | _::_,[]=>false
 | a::r,b::r2=>sameT a b&&sameK r r2
end
theorem zgy:∀ a:Trm,sameT a a=true
 | .mk k n l=>by
  rw [sameT,Ut rfl,Ut rfl,Ut rfl,go l];rfl
where
 go:∀ l:List Trm,sameK l l=true
  | []=>by rw [sameK]
  | a::r=>by rw [sameK,zgy a,go r];rfl
abbrev jL:Nat->Prop:=fun _=>True
theorem KidsT.kid {Q:Nat->Prop} {w:Wd} {q:OA} {l:List Trm} (h:KidsT Q w q l) {i:Nat} (hi:i<l.length) :
  ∃ b o q2 c2,q=some ⟨b,o,none⟩/\zo w ⟨b,o+i*3,none⟩ (zd l[i] q2 c2)/\b<w.heap.size/\l[i].name.length<=140737488351232/\KidsT Q w q2 l[i].kids:=by
 obtain⟨_,b,o,hq,hcl⟩:=h.inv;obtain⟨q2,c2,hn,_,hc,hk⟩:=hcl i hi;refine⟨b,o,q2,c2,by rcases hq with h | h;omega;exact h,hc,?_,hn,hk⟩;have h0:=hc 0 _ rfl;unfold World.cell? at h0
 split at h0
 ·rename_i hb;exact hlt hb
 ·cases h0
section
variable {w:Wd}
theorem zgV (s:Bs):CB 13 #[zn s] w (.agg (zd (.mk 1 s []) none 0).toArray):=by
 refine z6 5 [zn s] (.c .p .p) Tryz.func13 ?_;refine⟨Unit,fun _=>⟨[(0,zn s),(2,At0 w.heap.size)],[]⟩,fun _ X=>X.heap[w.heap.size]?=some (.cells (zd zT none 0).toArray 24 (0,0))/\Bw w X,⟨(),(cvE rfl rfl),zA w _,zba _ _⟩,?_⟩;rintro _ X ⟨f1,b1⟩;exact⟨zd (.mk 1 s []) none 0,rfl,zy (v := .agg (zd (.mk 1 s []) none 0).toArray) k24 f1 rfl rfl rfl ⟨zd (.mk 1 s []) none 0,rfl,za (zq f1),rfl,zl b1 (Gc _) _⟩⟩
theorem zmq {k:UInt8} {a b:Trm} {q p:OA} {c d:Nat} (hq:KidsT jL w q a.kids) (hp:KidsT jL w p b.kids) (ha:a.name.length<=140737488351232) (hb:b.name.length<=140737488351232) :
  Calls PG 19 #[u8 k,.agg (zd a q c).toArray,.agg (zd b p d).toArray] w fun e w'=>∃ r,e = .returned (.agg (zd (.mk k [] [a,b]) r 2).toArray)/\KidsT jL w' r [a,b]/\Bw w w':=by
 refine z6 12 [u8 k,.agg (zd a q c).toArray,.agg (zd b p d).toArray] (.c .p .p) Tryz.func19 ?_;refine⟨Unit,fun _=>⟨[(0,u8 k),(4,At0 w.heap.size),(5,At0 (w.heap.size+1)),(6,At0 (w.heap.size+2))],[]⟩,fun _ X=>X.heap[w.heap.size]?=some (.cells (zd a q c).toArray 24 (0,0))/\X.heap[w.heap.size+1]?=some (.cells (zd b p d).toArray 24 (0,0))/\X.heap[w.heap.size+2]?=some (.cells (zd zT none 0).toArray 24 (0,0))/\Bw w X/\X.heap.size=w.heap.size+3,?_,?_⟩
 ·obtain⟨W1,e1⟩:=nm (w.alloc (.cells (zd a q c).toArray 24));have n1:W1.heap.size=w.heap.size+1:=by rw [e1];exact wz _ _
  have f1:W1.heap[w.heap.size]?=some (.cells (zd a q c).toArray 24 (0,0)):=by rw [e1];exact zA w _
  have b1:Bw w W1:=by rw [e1];exact zba _ _
  obtain⟨W2,e2⟩:=nm (W1.alloc (.cells (zd b p d).toArray 24));have n2:W2.heap.size=w.heap.size+2:=by rw [e2,wz,n1]
  have f2:W2.heap[w.heap.size+1]?=some (.cells (zd b p d).toArray 24 (0,0)):=by rw [e2,<- n1];exact zA W1 _
  have b2:Bw W1 W2:=by rw [e2];exact zba _ _
  obtain⟨W3,e3⟩:=nm (W2.alloc (.cells (zd zT none 0).toArray 24));have n3:W3.heap.size=w.heap.size+3:=by rw [e3,wz,n2]
  have f3:W3.heap[w.heap.size+2]?=some (.cells (zd zT none 0).toArray 24 (0,0)):=by rw [e3,<- n2];exact zA W2 _
  have b3:Bw W2 W3:=by rw [e3];exact zba _ _
  refine⟨(),⟨.cons rfl (.cons ?_ (.cons ?_ (.cons ?_ .nil))),rfl⟩,?_⟩
  ·rfl
  ·show some (At0 (w.alloc (.cells (zd a q c).toArray 24)).heap.size)=_;rw [wz]
  ·show some (At0 ((w.alloc (.cells (zd a q c).toArray 24)).alloc (.cells (zd b p d).toArray 24)).heap.size)=_;rw [wz,wz]
  ·show _/\_;have key:W3.heap[w.heap.size]?=some (.cells (zd a q c).toArray 24 (0,0))/\W3.heap[w.heap.size+1]?=some (.cells (zd b p d).toArray 24 (0,0))/\W3.heap[w.heap.size+2]?=some (.cells (zd zT none 0).toArray 24 (0,0))/\Bw w W3/\W3.heap.size=w.heap.size+3:=⟨zb b3 (zb b2 f1),zb b3 f2,f3,zst b1 (zst b2 b3),n3⟩;rw [e3,e2,e1] at key;exact key
 rintro _ X ⟨f1,f2,f3,b1,n1⟩;refine⟨_,rfl,za f1,hlt f1,_,rfl,za f2,hlt f2,⟨by decide,by decide,rfl⟩,zd a q c++zd b p d,rfl,zd (.mk k [] [a,b]) (some ⟨X.heap.size,0,none⟩) 2,rfl,?_⟩;have bN:=zba X (.cells (zd a q c++zd b p d).toArray 24);have fN:=zA X (.cells (zd a q c++zd b p d).toArray 24);have f3N:=zb bN f3;refine zy (v := .agg (zd (.mk k [] [a,b]) (some ⟨X.heap.size,0,none⟩) 2).toArray) k24 f3N rfl rfl rfl ?_;have b9:=zl (B:=w.heap.size) ((zst b1 bN)) (by omega:w.heap.size<=w.heap.size+2) (zd (.mk k [] [a,b]) (some ⟨X.heap.size,0,none⟩) 2).toArray;exact⟨zd (.mk k [] [a,b]) (some ⟨X.heap.size,0,none⟩) 2,rfl,za (zq f3N),some ⟨X.heap.size,0,none⟩,rfl,.two (q:=q) (cap:=c) (p:=p) (cp:=d) trivial (za ((zt (by omega)).trans fN)) ha (hq.kept b9) hb (hp.kept b9),b9⟩
structure TwoB (w:Wd) (a b:Trm) (q p:OA) (c d:Nat) (X:Wd):Prop where
 x:X.heap[w.heap.size]?=some (.cells (zd a q c).toArray 24 (0,0))
 y:X.heap[w.heap.size+1]?=some (.cells (zd b p d).toArray 24 (0,0))
 k:KidsT jL X q a.kids
 l:KidsT jL X p b.kids
 b:Bw w X
theorem TwoB.below {a b:Trm} {q p:OA} {c d:Nat} {X Y:Wd} (h:TwoB w a b q p c d X) (hb:Bw X Y):TwoB w a b q p c d Y :=
 ⟨zb hb h.x,zb hb h.y,h.k.kept hb,h.l.kept hb,h.b.trans (hb.mono h.b.size)⟩
def ztW (a b:Trm):Prop:=∀ (q p:OA) (c d:Nat) (w:Wd),KidsT jL w q a.kids->KidsT jL w p b.kids->CB 78 #[.agg (zd a q c).toArray,.agg (zd b p d).toArray] w (.bool (sameT a b))
theorem zsR {k k2:UInt8} {n n2:Bs} {l l2:List Trm} (ih:∀ x∈l,∀ y,ztW x y):ztW (.mk k n l) (.mk k2 n2 l2):=by
 intro q p c d w hq hp;refine z6 46 [.agg (zd (.mk k n l) q c).toArray,.agg (zd (.mk k2 n2 l2) p d).toArray] (.c .p (.c .p .p)) Tryz.func78 ?_;refine⟨Unit,fun _=>⟨[(2,At0 w.heap.size),(3,At0 (w.heap.size+1))],[]⟩,fun _ X=>TwoB w (.mk k n l) (.mk k2 n2 l2) q p c d X,?_,?_⟩
 ·obtain⟨W1,e1⟩:=nm (w.alloc (.cells (zd (.mk k n l) q c).toArray 24));have n1:W1.heap.size=w.heap.size+1:=by rw [e1];exact wz _ _
  have f1:W1.heap[w.heap.size]?=some (.cells (zd (.mk k n l) q c).toArray 24 (0,0)):=by rw [e1];exact zA w _
  have b1:Bw w W1:=by rw [e1];exact zba _ _
  obtain⟨W2,e2⟩:=nm (W1.alloc (.cells (zd (.mk k2 n2 l2) p d).toArray 24));have f2:W2.heap[w.heap.size+1]?=some (.cells (zd (.mk k2 n2 l2) p d).toArray 24 (0,0)):=by rw [e2,<- n1];exact zA W1 _
  have b2:Bw W1 W2:=by rw [e2];exact zba _ _
  refine⟨(),⟨.cons rfl (.cons ?_ .nil),rfl⟩,?_⟩
  ·show some (At0 (w.alloc (.cells (zd (.mk k n l) q c).toArray 24)).heap.size)=_;rw [wz]
  ·have b12:=zst b1 b2;have key:TwoB w (.mk k n l) (.mk k2 n2 l2) q p c d W2:=⟨zb b2 f1,f2,hq.kept b12,hp.kept b12,b12⟩;rw [e2,e1] at key;exact key
 rintro _ X hX;have hl1:l.length<=140737488351232:=hq.inv.1;have hl2:l2.length<=140737488351232:=hp.inv.1;rw [sameT];refine⟨Unit,fun _=>⟨[(2,At0 w.heap.size),(3,At0 (w.heap.size+1))],[]⟩,fun _ Y=>X=Y/\k=k2/\n=n2/\l.length=l2.length,?_,?_⟩
 ·refine⟨_,zc (za hX.x) (i:=0) rfl,_,zc (za hX.y) (i:=0) rfl,biE (fun h1=>?_) fun h1=>?_⟩
  ·have h1:(!decide ((k.toNat:Int)=(k2.toNat:Int)))=true:=h1;rw [zaB] at h1;exact brT (brT ⟨rb (by rw [show decide (k=k2)=false by simpa using h1];rfl),hX.b⟩)
  have h1:(!decide ((k.toNat:Int)=(k2.toNat:Int)))=false:=h1;rw [zaB] at h1;have h1:k=k2:=by simpa using h1
  rw [Ut h1,Uz];refine⟨_,zc (za hX.x) (i:=1) rfl,_,zc (za hX.y) (i:=1) rfl,_,fun w=>zdu _ _ n n2 w,biE (fun h2=>?_) fun h2=>?_⟩
  ·have h2:(!decide (n=n2))=true:=h2;exact brT ⟨rb (by rw [show decide (n=n2)=false by simpa using h2];rfl),hX.b⟩
  have h2:(!decide (n=n2))=false:=h2;have h2:n=n2:=by simpa using h2
  rw [Ut h2,Uz];refine⟨_,zc (za hX.x) (i:=2) rfl,_,zc (za hX.y) (i:=2) rfl,biE (fun h3=>?_) fun h3=>?_⟩
  ·have h3:(!decide ((l.length:Int)=(l2.length:Int)))=true:=h3;rw [zP] at h3;exact⟨rb (by rw [show decide (l.length=l2.length)=false by simpa using h3];rfl),hX.b⟩
  ·have h3:(!decide ((l.length:Int)=(l2.length:Int)))=false:=h3;rw [zP] at h3;exact⟨(),(cvE rfl rfl),rfl,h1,h2,by simpa using h3⟩
 rintro _ _ ⟨rfl,h1,h2,h3⟩;rw [Ut h1,Ut h2,Ut h3,Uz,Uz,Uz];obtain⟨R,hR⟩:=nm (sameK l l2);rw [<- hR];refine⟨_,zc (za hX.x) (i:=2) rfl,Nat,fun i=>⟨[(2,At0 w.heap.size),(3,At0 (w.heap.size+1)),(28,.slice q l.length c),(29,i64 (l.length:Nat)),(30,.int .i64 (i:Nat))],[]⟩,fun i X=>TwoB w (.mk k n l) (.mk k2 n2 l2) q p c d X/\i<=l.length/\R=sameK (l.drop i) (l2.drop i),fun i=>l.length-i,0,(cvE rfl rfl),⟨hX,Ge _,hR⟩,?_⟩;clear hX hR X hq hp;rintro i X ⟨hX,hi,hR⟩;dsimp only at hi hR ⊢;refine biE (fun hc=>?_) fun hc=>?_
 ·have hc:(i:Int)<(l.length:Int):=dT hc;have hil:i<l.length:=by omega
  have hil2:i<l2.length:=by omega
  rw [Jo hil,Jo hil2,sameK] at hR;refine DrawE.ord [] [0,1,2,3,4,5,6,7,8,9,10,11] (by kernel_rfl) ?_;have hD:=hX.below (Gh X.heap.size X).drew;obtain⟨b1,o1,q1,c1,rfl,e1,s1,m1,k1⟩:=hD.k.kid (l:=l) hil;obtain⟨b2,o2,q2,c2,rfl,e2,s2,m2,k2'⟩:=hD.l.kid (l:=l2) hil2;refine⟨_,zc (za hD.x) (i:=2) rfl,i,rfl,hil,_,rfl,e1,s1,_,zc (za hD.y) (i:=2) rfl,i,rfl,hil2,_,rfl,e2,s2,cmo (ih l[i] (gM hil) l2[i] q1 q2 c1 c2 _ k1 k2') ?_⟩;rintro e Y ⟨rfl,bY⟩;refine⟨bY,?_⟩;have hY:=hD.below bY;refine biE (fun h=>?_) fun h=>?_
  ·have h:(!sameT l[i] l2[i])=true:=h;refine⟨rb ?_,hY.b⟩;rw [hR,show sameT l[i] l2[i]=false by simpa using h];rfl
  ·have h:(!sameT l[i] l2[i])=false:=h;rw [show sameT l[i] l2[i]=true by simpa using h,Uz] at hR;exact nxI (by omega) ⟨i+1,(cvE rfl rfl),⟨hY,hil,hR⟩,zdc (by omega)⟩
 ·have hc:¬ (i:Int)<(l.length:Int):=dF hc;rw [JA (by omega),sameK] at hR;exact⟨rb hR.symm,hX.b⟩
theorem zsq:∀ a b,ztW a b
 | .mk k n l,.mk k2 n2 l2=>zsR fun x hx y=>zsq x y
end
def zc1:List LineD->List LineD->Bool
 | [],_=>true
 | _::_,[]=>false
 | a::r,b::r2=>(decide (a.kind=b.kind)&&(decide (a.name=b.name)&&sameT a.term b.term))&&zc1 r r2
def zfe (a b:List LineD):Bool:=decide (a.length=b.length)&&zc1 a b
theorem zfG:∀ l:List LineD,zc1 l l=true
 | []=>rfl
 | a::r=>by rw [zc1,zgy,Ut rfl,Ut rfl,zfG r];rfl
theorem zcw (l:List LineD):zfe l l=true:=by unfold zfe;rw [Ut rfl,zfG];rfl
theorem LinsM.line {Q:Nat->Prop} {w:Wd} {p:OA} {ls:List LineD} (h:LinsM Q w p ls) {i:Nat} (hi:i<ls.length) :
  ∃ b o q c,p=some ⟨b,o,none⟩/\zo w ⟨b,o+i*5,none⟩ (zz ls[i].kind ls[i].name ls[i].term q c)/\b<w.heap.size/\ls[i].kind<=255/\ls[i].name.length<=140737488351232/\ls[i].term.name.length<=140737488351232/\KidsT Q w q ls[i].term.kids:=by
 obtain⟨rows,hrl,zb7,hrk,_⟩:=h;have hrn:rows.length=ls.length:=by rw [<- hrl,QQ]
 have hir:i<rows.length:=by omega
 have hxr:rows[i].1=ls[i]:=by
  have:(rows.map (·.1))[i]?=ls[i]?:=by rw [hrl]
  rw [KU,gE hir,gE hi] at this;exact Ug this
 obtain⟨bk,o,hp,hbk,hcl⟩:=zb7.at hir;obtain⟨k1,k2,k3,k4⟩:=hrk rows[i] (gM hir);have hcell:zo w ⟨bk,o+i*5,none⟩ (zz rows[i].1.kind rows[i].1.name rows[i].1.term rows[i].2.1 rows[i].2.2):=hcl i hir;rw [hxr] at hcell k1 k2 k3 k4;exact⟨bk,o,_,_,hp,hcell,hbk,k1,k2,k3,k4⟩
section
variable {w:Wd}
structure TwoM (w:Wd) (a b:List LineD) (q p:OA) (c d:Nat) (X:Wd):Prop where
 x:X.heap[w.heap.size]?=some (.cells #[.slice q a.length c] 47 (0,0))
 y:X.heap[w.heap.size+1]?=some (.cells #[.slice p b.length d] 47 (0,0))
 k:LinsM jL X q a
 l:LinsM jL X p b
 b:Bw w X
theorem TwoM.below {a b:List LineD} {q p:OA} {c d:Nat} {X Y:Wd} (h:TwoM w a b q p c d X) (hb:Bw X Y):TwoM w a b q p c d Y :=
 ⟨zb hb h.x,zb hb h.y,h.k.below hb,h.l.below hb,h.b.trans (hb.mono h.b.size)⟩
theorem zdG {a b:List LineD} {q p:OA} {c d:Nat} (ha:a.length<=140737488351232) (hb:b.length<=140737488351232) (hq:LinsM jL w q a) (hp:LinsM jL w p b) :
  CB 36 #[.agg #[.slice q a.length c],.agg #[.slice p b.length d]] w (.bool (zfe a b)):=by
 refine z6 49 [.agg #[.slice q a.length c],.agg #[.slice p b.length d]] (.c .p (.c .p (.s (.s .p (.b (.l (.s .p (.s .p (.s (.b (.c .p (.c .p .p))) .p)))))) .p))) Tryz.func36 ?_;refine⟨Unit,fun _=>⟨[(2,At0 w.heap.size),(3,At0 (w.heap.size+1))],[]⟩,fun _ X=>TwoM w a b q p c d X,?_,?_⟩
 ·obtain⟨W1,e1⟩:=nm (w.alloc (.cells #[.slice q a.length c] 47));have n1:W1.heap.size=w.heap.size+1:=by rw [e1];exact wz _ _
  have f1:W1.heap[w.heap.size]?=some (.cells #[.slice q a.length c] 47 (0,0)):=by rw [e1];exact zA w _
  have b1:Bw w W1:=by rw [e1];exact zba _ _
  obtain⟨W2,e2⟩:=nm (W1.alloc (.cells #[.slice p b.length d] 47));have f2:W2.heap[w.heap.size+1]?=some (.cells #[.slice p b.length d] 47 (0,0)):=by rw [e2,<- n1];exact zA W1 _
  have b2:Bw W1 W2:=by rw [e2];exact zba _ _
  refine⟨(),⟨.cons rfl (.cons ?_ .nil),rfl⟩,?_⟩
  ·show some (At0 (w.alloc (.cells #[.slice q a.length c] 47)).heap.size)=_;rw [wz]
  ·have b12:=zst b1 b2;have key:TwoM w a b q p c d W2:=⟨zb b2 f1,f2,hq.below b12,hp.below b12,b12⟩;rw [e2,e1] at key;exact key
 rintro _ X hX;unfold zfe;refine⟨Unit,fun _=>⟨[(2,At0 w.heap.size),(3,At0 (w.heap.size+1))],[]⟩,fun _ Y=>X=Y/\a.length=b.length,?_,?_⟩
 ·refine⟨_,zc (za hX.x) (i:=0) rfl,_,zc (za hX.y) (i:=0) rfl,biE (fun h3=>?_) fun h3=>?_⟩
  ·have h3:(!decide ((a.length:Int)=(b.length:Int)))=true:=h3;rw [zP] at h3;exact⟨rb (by rw [show decide (a.length=b.length)=false by simpa using h3];rfl),hX.b⟩
  ·have h3:(!decide ((a.length:Int)=(b.length:Int)))=false:=h3;rw [zP] at h3;exact⟨(),(cvE rfl rfl),rfl,by simpa using h3⟩
 rintro _ _ ⟨rfl,hlen⟩;rw [Ut hlen,Uz];obtain⟨R,hR⟩:=nm (zc1 a b);rw [<- hR];refine⟨_,zc (za hX.x) (i:=0) rfl,Nat,fun i=>⟨[(2,At0 w.heap.size),(3,At0 (w.heap.size+1)),(16,.slice q a.length c),(17,i64 (a.length:Nat)),(18,.int .i64 (i:Nat))],[]⟩,fun i X=>TwoM w a b q p c d X/\i<=a.length/\R=zc1 (a.drop i) (b.drop i),fun i=>a.length-i,0,(cvE rfl rfl),⟨hX,Ge _,hR⟩,?_⟩;clear hX hR X hq hp;rintro i X ⟨hX,hi,hR⟩;dsimp only at hi hR ⊢;refine biE (fun hc=>?_) fun hc=>?_
 ·have hc:(i:Int)<(a.length:Int):=dT hc;have hil:i<a.length:=by omega
  have hil2:i<b.length:=by omega
  rw [Jo hil,Jo hil2,zc1] at hR;obtain⟨u,hu⟩:=nm (a[i]);obtain⟨v,hv⟩:=nm (b[i]);rw [<- hu,<- hv] at hR;obtain⟨b1,o1,q1,c1,rfl,e1,s1,_,_,m1,k1⟩:=hX.k.line hil;rw [<- hu] at e1 m1 k1;refine⟨Nat,fun x=>⟨[(2,At0 w.heap.size),(3,At0 (w.heap.size+1)),(5,.int .i64 (i:Nat)),(6,At0 x),(16,.slice (some ⟨b1,o1,none⟩) a.length c),(17,i64 (a.length:Nat)),(18,.int .i64 (i:Nat))],[]⟩,fun x Y=>TwoM w a b (some ⟨b1,o1,none⟩) p c d Y/\Y.heap[x]?=some (.cells (zz u.kind u.name u.term q1 c1).toArray 49 (0,0))/\KidsT jL Y q1 u.term.kids,?_,?_⟩
  ·exact⟨i,rfl,hil,_,rfl,e1,s1,zk (X:=X) (v := .agg (zz u.kind u.name u.term q1 c1).toArray) k49 rfl rfl rfl fun Y hbY fY sY=>⟨X.heap.size,(cvE rfl rfl),hX.below hbY,fY,k1.kept hbY⟩⟩
  clear hX e1 s1 k1 X;rintro x X ⟨hX,fx,k1⟩;obtain⟨b2,o2,q2,c2,rfl,e2,s2,_,_,m2,k2⟩:=hX.l.line hil2;rw [<- hv] at e2 m2 k2;refine⟨Nat,fun y=>⟨[(2,At0 w.heap.size),(3,At0 (w.heap.size+1)),(6,At0 x),(7,At0 y),(16,.slice (some ⟨b1,o1,none⟩) a.length c),(17,i64 (a.length:Nat)),(18,.int .i64 (i:Nat))],[]⟩,fun y Y=>TwoM w a b (some ⟨b1,o1,none⟩) (some ⟨b2,o2,none⟩) c d Y/\Y.heap[x]?=some (.cells (zz u.kind u.name u.term q1 c1).toArray 49 (0,0))/\KidsT jL Y q1 u.term.kids/\Y.heap[y]?=some (.cells (zz v.kind v.name v.term q2 c2).toArray 49 (0,0))/\KidsT jL Y q2 v.term.kids,?_,?_⟩
  ·exact⟨_,zc (za hX.y) (i:=0) rfl,i,rfl,hil2,_,rfl,e2,s2,zk (X:=X) (v := .agg (zz v.kind v.name v.term q2 c2).toArray) k49 rfl rfl rfl fun Y hbY fY sY=>⟨X.heap.size,(cvE rfl rfl),hX.below hbY,zb hbY fx,k1.kept hbY,fY,k2.kept hbY⟩⟩
  clear hX fx k1 e2 s2 k2 X;rintro y X ⟨hX,fx,k1,fy,k2⟩;refine⟨_,zc (za fx) (i:=0) rfl,_,zc (za fy) (i:=0) rfl,biE (fun h1=>?_) fun h1=>?_⟩
  ·have h1:(!decide ((u.kind:Int)=(v.kind:Int)))=true:=h1;rw [zP] at h1;exact brT (brT ⟨rb (by rw [hR,show decide (u.kind=v.kind)=false by simpa using h1];rfl),hX.b⟩)
  have h1:(!decide ((u.kind:Int)=(v.kind:Int)))=false:=h1;rw [zP] at h1;rw [show decide (u.kind=v.kind)=true by simpa using h1,Uz] at hR;refine⟨_,zc (za fx) (i:=1) rfl,_,zc (za fy) (i:=1) rfl,_,fun w=>zdu _ _ u.name v.name w,biE (fun h2=>?_) fun h2=>?_⟩
  ·have h2:(!decide (u.name=v.name))=true:=h2;exact brT ⟨rb (by rw [hR,show decide (u.name=v.name)=false by simpa using h2];rfl),hX.b⟩
  have h2:(!decide (u.name=v.name))=false:=h2;rw [show decide (u.name=v.name)=true by simpa using h2,Uz] at hR;have t1:zo X ⟨x,0+2,none⟩ (zd u.term q1 c1):=qz (o:=2) (n:=3) fx;have t2:zo X ⟨y,0+2,none⟩ (zd v.term q2 c2):=qz (o:=2) (n:=3) fy;refine⟨_,rfl,t1,hlt fx,_,rfl,t2,hlt fy,cmo (zsq u.term v.term q1 q2 c1 c2 X k1 k2) ?_⟩;rintro e Y ⟨rfl,bY⟩;have hY:=hX.below bY;refine biE (fun h=>?_) fun h=>?_
  ·have h:(!sameT u.term v.term)=true:=h;refine⟨rb ?_,hY.b⟩;rw [hR,show sameT u.term v.term=false by simpa using h];rfl
  ·have h:(!sameT u.term v.term)=false:=h;rw [show sameT u.term v.term=true by simpa using h,Uz] at hR;exact nxI (by omega) ⟨i+1,(cvE rfl rfl),⟨hY,hil,hR⟩,zdc (by omega)⟩
 ·have hc:¬ (i:Int)<(a.length:Int):=dF hc;rw [JA (by omega),zc1] at hR;exact⟨rb hR.symm,hX.b⟩
end
theorem zaz {E:Env} {x:Operand} {v:Value} {f:Value->Prop} (h:opd E x=some v) (k:f v):zR E x f:=by unfold zR;rw [h];exact k
theorem zQ {E:Env} {t u:Nat} {v:Value} (h:u≠t):Env.find (zcW (some u) v E) t=Env.find E t:=by
 show VEnv.find ((u,v)::E.vs) t=VEnv.find E.vs t;have:Nat.beq u t=false:=by cases hb:Nat.beq u t with | false=>rfl | true=>exact Gy (JR hb) h
 simp only [VEnv.find,this]
theorem zbs {E:Env} {t:Nat} {v:Value}:Env.find (zcW (some t) v E) t=some v:=by
 show VEnv.find ((t,v)::E.vs) t=some v;simp only [VEnv.find,UR]
def zs0:Code->Array Oper
 | .region _ ops _=>ops
 | _ => #[]
def zvy:Code->Code
 | .seq a _=>a
 | c=>c
def zqX:Code->Code
 | .seq _ b=>b
 | c=>c
noncomputable def zc7:Array Oper:=zs0 (zvy (zqX (zqX (zqX (zqX ((Tryz.f51.body).getD .skip))))))
def lkD (D:Nat->Bool):List (Nat×Bs×Value)->Bs->Option Value
 | [],_=>none
 | (i,k,v)::r,q=>if q=k then (if D i=true then some v else none) else lkD D r q
theorem zeN {D D':Nat->Bool}:∀ {l:List (Nat×Bs×Value)},(∀ p∈l,D' p.1=D p.1)->lkD D' l=lkD D l
 | [],_=>rfl
 | (i,k,v)::r,h=>by
  funext q;have h1:D' i=D i:=h (i,k,v) (Kz ..);simp only [lkD,h1,zeN (l:=r) fun p hp=>h p (JW _ hp)]
theorem zkn {D:Nat->Bool}:∀ {l:List (Nat×Bs×Value)},(∀ p∈l,D p.1=false)->lkD D l=fun _=>none
 | [],_=>rfl
 | (i,k,v)::r,h=>by
  funext q;have h1:D i=false:=h (i,k,v) (Kz ..);simp only [lkD,h1,zkn (l:=r) fun p hp=>h p (JW _ hp)]
  split <;> rfl
theorem zpv {D:Nat->Bool} {i:Nat} {k:Bs} {v:Value}:∀ {l:List (Nat×Bs×Value)},(i,k,v)∈l->(l.map (·.1)).Nodup->(l.map (·.2.1)).Nodup->lkD (fun j=>Nat.beq j i||D j) l=fun q=>if q=k then some v else lkD D l q
 | [],h,_,_=>by cases h
 | (a,b,c)::r,h,h1,h2=>by
  rw [UE,QX] at h1 h2;funext q;rcases UF.1 h with e | e
  ·simp only [UJ] at e;obtain⟨rfl,rfl,rfl⟩:=e;by_cases hq:q=k
   ·simp only [lkD,hq,Gu,UR,Bool.true_or]
   ·simp only [lkD,hq,Gr];rw [zeN fun p hp=>?_];have:p.1≠i:=fun e=>h1.1 (by rw [<- e];exact Kk (f:=(·.1)) hp);have:Nat.beq p.1 i=false:=(by cases hb:Nat.beq p.1 i with | false=>rfl | true=>exact Gy (JR hb) this);rw [this,Uw]
  ·have hk:k≠b:=fun e'=>h2.1 (by show b∈_;rw [<- e'];exact Kk (f:=fun p:Nat×Bs×Value=>p.2.1) e);have hi:i≠a:=fun e'=>h1.1 (by show a∈_;rw [<- e'];exact Kk (f:=fun p:Nat×Bs×Value=>p.1) e);have hb:Nat.beq a i=false:=by cases hb:Nat.beq a i with | false=>rfl | true=>exact Gy (JR hb).symm hi
   have ih:=congrFun (zpv (D:=D) e h1.2 h2.2) q;simp only [lkD,hb,Uw,ih];by_cases hq:q=b
   ·have hqk:¬ q=k:=fun e=>hk (e.symm.trans hq);rw [Gx hq,Gw hqk,Gx hq]
   ·rw [Gw hq,Gw hq]
section
variable {x:ExD} {q:OA} {c:Nat} {w:Wd}
def zfW (x:ExD) (q:OA) (c:Nat) (mb:Nat):List Value:=exC x q c++[i64 (x.ev.length:Nat),.map (some mb)]
abbrev zai (r:RelD):Value := .agg (ze r).toArray
def crX (x:ExD):RelD:=zee x.ev.length (zax x.ev.length) (zax x.ev.length)
def nwI (x:ExD):List (Nat×Bs×Value):=[(5,[112,111],zai (x.po)),(8,[114,102],zai (x.rf)),(11,[99,111],zai (x.co)),(14,[114,109,119],zai (x.rm)),(17,[100,97,116,97],zai (x.dt)),(20,[99,116,114,108],zai (x.ct)),(23,[102,114],zai (frX x)),(26,[108,111,99],zai (zlI x)),(30,[105,100],zai (idR x.ev.length (zax x.ev.length))),(34,[101,120,116],zai (zlR x (crX x))),(38,[105,110,116],zai (zlJ x (crX x)))]
def nwT (x:ExD) (q:OA) (c bx:Nat):List (Nat×Nat×Value):=[(0,15,.agg (exC x q c).toArray),(1,16,i64 (x.ev.length:Nat)),(3,18,.pointer (some ⟨bx,0+1,none⟩)),(4,19,zai x.po),(6,20,.pointer (some ⟨bx,0+50,none⟩)),(7,21,zai x.rf),(9,22,.pointer (some ⟨bx,0+99,none⟩)),(10,23,zai x.co),(12,24,.pointer (some ⟨bx,0+246,none⟩)),(13,25,zai x.rm),(15,26,.pointer (some ⟨bx,0+148,none⟩)),(16,27,zai x.dt),(18,28,.pointer (some ⟨bx,0+197,none⟩)),(19,29,zai x.ct),(21,30,.agg (exC x q c).toArray),(22,31,zai (frX x)),(24,32,.agg (exC x q c).toArray),(25,33,zai (zlI x)),(27,34,i64 (x.ev.length:Nat)),(28,35,s64 (zax x.ev.length)),(29,36,zai (idR x.ev.length (zax x.ev.length))),(31,37,.agg (exC x q c).toArray),(32,38,zai (crX x)),(33,39,zai (zlR x (crX x))),(35,40,.agg (exC x q c).toArray),(36,41,zai (crX x)),(37,42,zai (zlJ x (crX x)))]
def nwB (x:ExD) (bx cb:Nat):VEnv:=[(1,At0 bx),(3,i64 (x.ev.length:Nat)),(4,s64 (zax x.ev.length)),(5,At0 cb)]
theorem zfk {α β:Type} [DecidableEq β] {f:α->β}:∀ {l:List α},(l.map f).Nodup->∀ a∈l,∀ b∈l,f a=f b->a=b
 | [],_,a,ha,_,_,_=>by cases ha
 | y::r,h,a,ha,b,hb,e=>by
  rw [UE,QX] at h;rcases UF.1 ha with ea | ha'
  ·rcases UF.1 hb with eb | hb'
   ·rw [ea,eb]
   ·exact Gy (by rw [<- ea,e];exact Kk (f:=f) hb') h.1
  ·rcases UF.1 hb with eb | hb'
   ·exact Gy (by rw [<- eb,<- e];exact Kk (f:=f) ha') h.1
   ·exact zfk h.2 a ha' b hb' e
def zkb:List Nat:=[0,1,3,4,6,7,9,10,12,13,15,16,18,19,21,22,24,25,27,28,29,31,32,33,35,36,37]
def zld:List Nat:=[15,16,18,19,20,21,22,23,24,25,26,27,28,29,30,31,32,33,34,35,36,37,38,39,40,41,42]
def zkw:List Nat:=[5,8,11,14,17,20,23,26,30,34,38]
theorem zrb (bx:Nat):((nwT x q c bx).map (·.1)).Nodup:=show zkb.Nodup by decide
theorem znR (bx:Nat):((nwT x q c bx).map (·.2.1)).Nodup:=show zld.Nodup by decide
theorem zrd:((nwI x).map (·.1)).Nodup:=show zkw.Nodup by decide
theorem zpm:((nwI x).map (·.2.1)).Nodup:=by show ([[112,111],[114,102],[99,111],[114,109,119],[100,97,116,97],[99,116,114,108],[102,114],[108,111,99],[105,100],[101,120,116],[105,110,116]]:List Bs).Nodup;decide
theorem ztc:∀ p∈nwI x,p.1<43:=by
 have h:∀ a∈zkw,a<43:=by decide
 exact fun p hp=>h p.1 (Kk (f:=(·.1)) hp)
theorem ztb (bx:Nat):∀ p∈nwT x q c bx,(p.1 ∉ (nwI x).map (·.1))/\p.1≠2/\p.1<39:=by
 have h:∀ a∈zkb,a ∉ zkw/\a≠2/\a<39:=by decide
 exact fun p hp=>h p.1 (Kk (f:=(·.1)) hp)
theorem zrc (bx:Nat):∀ p∈nwT x q c bx,15<=p.2.1/\p.2.1≠17/\p.2.1<43:=by
 have h:∀ a∈zld,15<=a/\a≠17/\a<43:=by decide
 exact fun p hp=>h p.2.1 (Kk (f:=fun p:Nat×Nat×Value=>p.2.1) hp)
structure MpN (x:ExD) (q:OA) (c:Nat) (R0:Wd) (D:Nat->Bool) (E:Env) (w:Wd) (mb:Nat):Prop where
 lo:R0.heap.size<=mb
 f:Env.find E 17=some (.map (some mb))
 m:MapF zbq w mb (lkD D (nwI x))
 a:D 39=true->Env.find E 43=some (.map (some mb))
 b:D 40=true->Env.find E 44=some (.agg (zfW x q c mb).toArray)
 e:D 41=true->∃ bb,R0.heap.size<=bb/\w.heap[bb]?=some (.cells (zfW x q c mb).toArray 120 (0,0))/\Env.find E 45=some (At0 bb)/\(D 42=true->Env.find E 2=some (At0 bb))
structure JN (x:ExD) (q:OA) (c bx cb:Nat) (R0:Wd) (D:Nat->Bool) (E:Env) (w:Wd):Prop where
 ds:E.ds=[]
 bs:CovL E.vs (nwB x bx cb)
 tb:∀ p∈nwT x q c bx,D p.1=true->Env.find E p.2.1=some p.2.2
 bl:Bw R0 w
 mp:D 2=true->∃ mb,MpN x q c R0 D E w mb
 o1:D 40=true->D 39=true
 o2:D 41=true->D 40=true
 o3:D 42=true->D 41=true
 o4:D 2=false->D 39=false/\∀ p∈nwI x,D p.1=false
section
variable {bx cb i t:Nat} {v:Value} {R0:Wd} {D:Nat->Bool} {E:Env} {w':Wd}
theorem zcq (h:CovL E.vs (nwB x bx cb)) {t:Nat} (ht:5<t\/t=2) (v:Value):CovL (zcW (some t) v E).vs (nwB x bx cb):=by
 have k:=h.find;have g:∀ n u,VEnv.find (nwB x bx cb) n=some u->t≠n->VEnv.find (zcW (some t) v E).vs n=some u:=fun n u hf hne=>(zQ (E:=E) (t:=n) (u:=t) (v:=v) hne).trans (k n u hf);exact .cons (g 1 _ rfl (by omega)) (.cons (g 3 _ rfl (by omega)) (.cons (g 4 _ rfl (by omega)) (.cons (g 5 _ rfl (by omega)) .nil)))
theorem orD (h:(Nat.beq i t||D i)=true) (hne:i≠t):D i=true:=by
 have:Nat.beq i t=false:=by cases hb:Nat.beq i t with | false=>rfl | true=>exact Gy (JR hb) hne
 rwa [this,Uw] at h
theorem zb6 (hne:i≠t):(Nat.beq i t||D i)=D i:=by
 have:Nat.beq i t=false:=by cases hb:Nat.beq i t with | false=>rfl | true=>exact Gy (JR hb) hne
 rw [this,Uw]
theorem JN.put (h:JN x q c bx cb R0 D E w) (hm:(i,t,v)∈nwT x q c bx) (hb:Bw w w'):JN x q c bx cb R0 (fun j=>Nat.beq j i||D j) (zcW (some t) v E) w':=by
 obtain⟨s1,s2,s3⟩:=zrc bx _ hm;obtain⟨o1,o2,o3⟩:=ztb bx _ hm;dsimp only at s1 s2 s3 o1 o2 o3;refine⟨h.ds,zcq h.bs (.inl (by omega)) v,fun p hp hd=>?_,h.bl.trans (hb.mono h.bl.size),fun hd=>?_,fun hd=>by rw [QI];exact .inr (h.o1 (orD hd (by omega))),fun hd=>by rw [QI];exact .inr (h.o2 (orD hd (by omega))),fun hd=>by rw [QI];exact .inr (h.o3 (orD hd (by omega))),fun hd=>?_⟩
 rotate_left 1
 rotate_left 1
 ·have hd:(Nat.beq 2 i||D 2)=false:=hd;rw [zb6 (by omega)] at hd;obtain⟨k1,k2⟩:=h.o4 hd;exact⟨(zb6 (by omega)).trans k1,fun p hp=>(zb6 fun e=>o1 (by rw [<- e];exact Kk (f:=fun p:Nat×Bs×Value=>p.1) hp)).trans (k2 p hp)⟩
 ·by_cases e:p.1=i
  ·have:=zfk (zrb bx) p hp _ hm e;rw [this];exact zbs
  ·have e2:t≠p.2.1:=fun e'=>e (by rw [zfk (znR bx) p hp _ hm e'.symm]);rw [zQ e2];exact h.tb p hp (orD hd e)
 ·obtain⟨mb,hM⟩:=h.mp (orD hd (by omega));have ml:=jX hM.m;refine⟨mb,hM.lo,(zQ (by omega)).trans hM.f,?_,fun hd=>(zQ (by omega)).trans (hM.a (orD hd (by omega))),fun hd=>(zQ (by omega)).trans (hM.b (orD hd (by omega))),fun hd=>?_⟩
  ·rw [zeN fun p hp=>zb6 fun e=>o1 (by rw [<- e];exact Kk (f:=(·.1)) hp)];exact hM.m.below hb
  ·obtain⟨bb,hlo,hbx,hf,h2⟩:=hM.e (orD hd (by omega));exact⟨bb,hlo,zb hb hbx,(zQ (by omega)).trans hf,fun hd=>(zQ (by omega)).trans (h2 (orD hd (by omega)))⟩
def okI (i:Nat):Bool:=decide (i<39)&&(decide (i≠2)&&decide (i ∉ zkb))
theorem JN.ins (h:JN x q c bx cb R0 D E w) {k:Bs} (hm:(i,k,v)∈nwI x) (h2:D 2=true) (hok:okI i=true) :
  ∃ mb,opd E (.tmp 17)=some (.map (some mb))/\∀ {K:Wd->Prop},(∀ w',JN x q c bx cb R0 (fun j=>Nat.beq j i||D j) E w'->K w')->SatR ((Instr.mapUpdate 118 (.map (some mb)) (zbq k) v).run PG w) fun _ w'=>K w':=by
 unfold okI at hok;rw [bAT,bAT,dE,dE,dE] at hok;obtain⟨hi,hi2,hni⟩:=hok;replace hni:i ∉ (nwT x q c bx).map (·.1):=hni;obtain⟨mb,hM⟩:=h.mp h2;refine⟨mb,hM.f,fun {K} hK=>?_⟩;obtain⟨o,hr,hm'⟩:=jN zjL Tryz.underlying118 hM.m k v;refine⟨_,_,hr,hK _ ?_⟩;have ml:=jX hM.m;refine⟨h.ds,h.bs,fun p hp hd=>h.tb p hp (orD hd fun e=>hni (by rw [<- e];exact Kk (f:=(·.1)) hp)),qX h.bl hM.lo o,fun _=>⟨mb,hM.lo,hM.f,?_,fun hd=>hM.a (orD hd (by omega)),fun hd=>hM.b (orD hd (by omega)),fun hd=>?_⟩,fun hd=>by rw [QI];exact .inr (h.o1 (orD hd (by omega))),fun hd=>by rw [QI];exact .inr (h.o2 (orD hd (by omega))),fun hd=>by rw [QI];exact .inr (h.o3 (orD hd (by omega))),fun hd=>Gy h2 (by have hd:(Nat.beq 2 i||D 2)=false:=hd;rw [zb6 (by omega)] at hd;rw [hd];decide)⟩
 ·rw [zpv hm zrd zpm];exact hm'
 ·obtain⟨bb,hlo,hbx,hf,h2⟩:=hM.e (orD hd (by omega));refine⟨bb,hlo,?_,hf,fun hd=>h2 (orD hd (by omega))⟩;have hne:bb≠mb:=by
   rintro rfl;obtain⟨es,cl,hh,_⟩:=hM.m;rw [hh] at hbx;cases hbx
  exact (zj hne).trans hbx
end
theorem jc {a b:Bool} (h:(a&&b)=true):a=true:=by cases a with | true=>rfl | false=>cases h
theorem zcN {a b:Bool} (h:(a&&b)=true):b=true:=by cases a with | true=>exact h | false=>cases h
theorem mTn {bx:Nat} {p:Nat×Nat×Value} (i:Nat) (h:(nwT x q c bx)[i]?=some p):p∈nwT x q c bx:=JY h
theorem mIn {p:Nat×Bs×Value} (i:Nat) (h:(nwI x)[i]?=some p):p∈nwI x:=JY h
theorem zm4:zI (crX x).to:=zdF fun i _ _=>by
 by_cases h:(zax x.ev.length).testBit i=true
 ·rw [Gx h];exact KE Ua (jY _)
 ·rw [Gw h];decide
structure R0N (x:ExD) (q:OA) (c bx cb:Nat) (R0:Wd):Prop where
 h:ExH R0 bx x q c
 cr:R0.heap[cb]?=some (.cells (ze (crX x)).toArray 30 (0,0))
 v:ExV R0 x q
 t:Tz64M R0
theorem zh8:∀ (A B C xs:List Value),B.length=xs.length->zbT (A++(B++C)) A.length xs=A++(xs++C)
 | A,B,C,[],h=>by rw [Jf h];rfl
 | A,[],C,y::xs,h=>by simp at h
 | A,b::B,C,y::xs,h=>by
  have e:(A++(b::B++C)).set A.length y=(A++[y])++(B++C):=by
   rw [JP _ _ (Gc _),UV];simp
  rw [zbT,e];have:=zh8 (A++[y]) B C xs (by simpa using h);rw [lap,List.length_singleton] at this;rw [this];simp
theorem zpS {xs z:List Value} (hx:xs.length=333) (hz:z.length=335) {a b d:Operand} {n:Int} {r:Option Nat}:zcT (zfi [(0,333,true),(333,1,false),(334,1,false)]) z (zfV [(0,a),(1,b),(2,d)] [.agg xs.toArray,i64 n,.map r])=some (xs++[i64 n,.map r]):=by
 have e1:(Value.agg xs.toArray).cells.size=333:=hx;have e0:(Value.agg xs.toArray).cells.toList=xs:=rfl;have e2:(i64 n).cells.size=1:=rfl;have e3:(Value.map r).cells.size=1:=rfl;have h2:(i64 n).cells.toList=[i64 n]:=rfl;have h3:(Value.map r).cells.toList=[.map r]:=rfl;have hz2:z=z.take 333++z.drop 333:=(JQ 333 z).symm;have hzt:(z.take 333).length=333:=by rw [Qv];omega
 have hzd:(z.drop 333).length=2:=by rw [Qu];omega
 obtain⟨u,v,huv⟩:∃ u v,z.drop 333=[u,v]:=by
  match z.drop 333,hzd with
  | [u,v],_=>exact⟨u,v,rfl⟩
 have hp:zbT z 0 xs=xs++[u,v]:=by
  rw [hz2,huv];exact zh8 [] _ _ _ (by rw [hx,hzt])
 have l1:(xs++[u,v]).length=335:=by rw [lap,hx];rfl
 simp only [zfV,zcT,zfi,List.getElem?_cons_zero,Ju,e0,e1,e2,e3,h2,h3,hz,hp];simp only [UR,UX,Uz,l1];have s1:zbT (xs++[u,v]) 333 [i64 n]=xs++[i64 n,v]:=by
  simp only [zbT];rw [JP _ _ (by omega),hx];rfl
 have l2:(xs++[i64 n,v]).length=335:=by rw [lap,hx];rfl
 have s2:zbT (xs++[i64 n,v]) 334 [.map r]=xs++[i64 n,.map r]:=by
  simp only [zbT];rw [JP _ _ (by omega),hx];rfl
 have b1:Nat.ble 333 335=true:=rfl;have b2:Nat.ble (333+1) 335=true:=rfl;have b3:Nat.ble (334+1) 335=true:=rfl;simp only [s1,l2,s2,b3]
theorem zqG:(zso).length=335:=by kernel_rfl
section
variable {bx cb i t:Nat} {v:Value} {R0:Wd} {D:Nat->Bool} {E:Env}
abbrev NwS (i:Nat):Prop:=∀ {x:ExD} {q:OA} {c:Nat} {w:Wd} {bx cb:Nat} {R0:Wd} {D:Nat->Bool} {E:Env},R0N x q c bx cb R0->JN x q c bx cb R0 D E w->zhs zc7 D i=true->zbx (sg 46) zc7 i E w fun E' w'=>JN x q c bx cb R0 (fun j=>Nat.beq j i||D j) E' w'
theorem wT {E:Env} {t:Nat} {v:Value} {f:Value->Prop} (h:VEnv.find E.vs t=some v) (k:f v):zR E (.tmp t) f:=zaz (x := .tmp t) h k
theorem zvL:NwS 0:=fun hR h hd=>wT (h.bs.find 1 _ rfl) ⟨_,zH _ _ _,za (zb h.bl hR.h),hlt (zb h.bl hR.h),h.put (mTn 0 rfl) (Gh _ _)⟩
theorem zuN:NwS 21:=fun hR h hd=>wT (h.bs.find 1 _ rfl) ⟨_,zH _ _ _,za (zb h.bl hR.h),hlt (zb h.bl hR.h),h.put (mTn 14 rfl) (Gh _ _)⟩
theorem zuK:NwS 24:=fun hR h hd=>wT (h.bs.find 1 _ rfl) ⟨_,zH _ _ _,za (zb h.bl hR.h),hlt (zb h.bl hR.h),h.put (mTn 16 rfl) (Gh _ _)⟩
theorem zuD:NwS 31:=fun hR h hd=>wT (h.bs.find 1 _ rfl) ⟨_,zH _ _ _,za (zb h.bl hR.h),hlt (zb h.bl hR.h),h.put (mTn 21 rfl) (Gh _ _)⟩
theorem zuz:NwS 35:=fun hR h hd=>wT (h.bs.find 1 _ rfl) ⟨_,zH _ _ _,za (zb h.bl hR.h),hlt (zb h.bl hR.h),h.put (mTn 24 rfl) (Gh _ _)⟩
theorem zuC:NwS 32:=fun hR h hd=>wT (h.bs.find 5 _ rfl) ⟨_,zf _,za (zb h.bl hR.cr),hlt (zb h.bl hR.cr),h.put (mTn 22 rfl) (Gh _ _)⟩
theorem zuy:NwS 36:=fun hR h hd=>wT (h.bs.find 5 _ rfl) ⟨_,zf _,za (zb h.bl hR.cr),hlt (zb h.bl hR.cr),h.put (mTn 25 rfl) (Gh _ _)⟩
theorem zvK:NwS 1:=fun hR h hd=>wT (h.bs.find 3 _ rfl) (h.put (mTn 1 rfl) (Gh _ _))
theorem zuH:NwS 27:=fun hR h hd=>wT (h.bs.find 3 _ rfl) (h.put (mTn 18 rfl) (Gh _ _))
theorem zuG:NwS 28:=fun hR h hd=>wT (h.bs.find 4 _ rfl) (h.put (mTn 19 rfl) (Gh _ _))
theorem zvI:NwS 3:=fun hR h hd=>wT (h.bs.find 1 _ rfl) (h.put (mTn 2 rfl) (Gh _ _))
theorem zvH:NwS 4:=fun hR h hd=>wT (h.tb _ (mTn 2 rfl) (jc hd)) ⟨_,zf _,jZ (zb h.bl hR.h) (i:=0) (by decide) rfl,hlt (zb h.bl hR.h),h.put (mTn 3 rfl) (Gh _ _)⟩
theorem zvF:NwS 6:=fun hR h hd=>wT (h.bs.find 1 _ rfl) (h.put (mTn 4 rfl) (Gh _ _))
theorem zvE:NwS 7:=fun hR h hd=>wT (h.tb _ (mTn 4 rfl) (jc hd)) ⟨_,zf _,jZ (zb h.bl hR.h) (i:=1) (by decide) rfl,hlt (zb h.bl hR.h),h.put (mTn 5 rfl) (Gh _ _)⟩
theorem zvC:NwS 9:=fun hR h hd=>wT (h.bs.find 1 _ rfl) (h.put (mTn 6 rfl) (Gh _ _))
theorem zuY:NwS 10:=fun hR h hd=>wT (h.tb _ (mTn 6 rfl) (jc hd)) ⟨_,zf _,jZ (zb h.bl hR.h) (i:=2) (by decide) rfl,hlt (zb h.bl hR.h),h.put (mTn 7 rfl) (Gh _ _)⟩
theorem zuW:NwS 12:=fun hR h hd=>wT (h.bs.find 1 _ rfl) (h.put (mTn 8 rfl) (Gh _ _))
theorem zuV:NwS 13:=fun hR h hd=>wT (h.tb _ (mTn 8 rfl) (jc hd)) ⟨_,zf _,jZ (zb h.bl hR.h) (i:=5) (by decide) rfl,hlt (zb h.bl hR.h),h.put (mTn 9 rfl) (Gh _ _)⟩
theorem zuT:NwS 15:=fun hR h hd=>wT (h.bs.find 1 _ rfl) (h.put (mTn 10 rfl) (Gh _ _))
theorem zuS:NwS 16:=fun hR h hd=>wT (h.tb _ (mTn 10 rfl) (jc hd)) ⟨_,zf _,jZ (zb h.bl hR.h) (i:=3) (by decide) rfl,hlt (zb h.bl hR.h),h.put (mTn 11 rfl) (Gh _ _)⟩
theorem zuQ:NwS 18:=fun hR h hd=>wT (h.bs.find 1 _ rfl) (h.put (mTn 12 rfl) (Gh _ _))
theorem zuP:NwS 19:=fun hR h hd=>wT (h.tb _ (mTn 12 rfl) (jc hd)) ⟨_,zf _,jZ (zb h.bl hR.h) (i:=4) (by decide) rfl,hlt (zb h.bl hR.h),h.put (mTn 13 rfl) (Gh _ _)⟩
theorem zuM:NwS 22:=fun hR h hd=>wT (h.tb _ (mTn 14 rfl) (jc hd)) (cmo (zvn (hR.v.below h.bl) (hR.t.below h.bl)) fun e w3 k=>by obtain⟨rfl,hb⟩:=k;exact h.put (mTn 15 rfl) (hb))
theorem zuJ:NwS 25:=fun hR h hd=>wT (h.tb _ (mTn 16 rfl) (jc hd)) (cmo (zt3 (hR.v.below h.bl) (hR.t.below h.bl)) fun e w3 k=>by obtain⟨rfl,hb⟩:=k;exact h.put (mTn 17 rfl) (hb))
theorem zuF:NwS 29:=fun hR h hd=>wT (h.tb _ (mTn 18 rfl) (jc hd)) (wT (h.tb _ (mTn 19 rfl) (jc (zcN hd))) (cmo (zv3 (by have:=hR.v.n;omega) (jY _)) fun e w3 k=>by obtain⟨rfl,hb⟩:=k;exact h.put (mTn 20 rfl) (hb)))
theorem zuB:NwS 33:=fun hR h hd=>wT (h.tb _ (mTn 21 rfl) (jc hd)) (wT (h.tb _ (mTn 22 rfl) (jc (zcN hd))) (cmo (zt8 (hR.v.below h.bl) zm4 (hR.t.below h.bl)) fun e w3 k=>by obtain⟨rfl,hb⟩:=k;exact h.put (mTn 23 rfl) (hb)))
theorem zux:NwS 37:=fun hR h hd=>wT (h.tb _ (mTn 24 rfl) (jc hd)) (wT (h.tb _ (mTn 25 rfl) (jc (zcN hd))) (cmo (zt6 (hR.v.below h.bl) zm4 (hR.t.below h.bl)) fun e w3 k=>by obtain⟨rfl,hb⟩:=k;exact h.put (mTn 26 rfl) (hb)))
theorem zhe {x:ExD} {q:OA} {c:Nat} {w:Wd} {bx cb i:Nat} {k:Bs} {v:Value} {R0:Wd} {D:Nat->Bool} {E:Env} (h:JN x q c bx cb R0 D E w) (hm:(i,k,v)∈nwI x) (h2:D 2=true) (hok:okI i=true) {t:Nat} (ht:Env.find E t=some v):zR E (.tmp 17) fun m=>zR E (.const (zbq k)) fun a=>zR E (.tmp t) fun b=>SatR ((Instr.mapUpdate 118 m a b).run PG w) fun _ w'=>JN x q c bx cb R0 (fun j=>Nat.beq j i||D j) E w':=by
 obtain⟨mb,hf,hk⟩:=h.ins hm h2 hok;exact zaz (x := .tmp 17) hf (zaz (x := .const _) rfl (wT ht (hk fun w' h=>h)))
theorem zvG:NwS 5:=fun hR h hd=>zhe h (mIn 0 rfl) (jc hd) rfl (h.tb _ (mTn 3 rfl) (jc (zcN hd)))
theorem zvD:NwS 8:=fun hR h hd=>zhe h (mIn 1 rfl) (jc hd) rfl (h.tb _ (mTn 5 rfl) (jc (zcN hd)))
theorem zuX:NwS 11:=fun hR h hd=>zhe h (mIn 2 rfl) (jc hd) rfl (h.tb _ (mTn 7 rfl) (jc (zcN hd)))
theorem zuU:NwS 14:=fun hR h hd=>zhe h (mIn 3 rfl) (jc hd) rfl (h.tb _ (mTn 9 rfl) (jc (zcN hd)))
theorem zuR:NwS 17:=fun hR h hd=>zhe h (mIn 4 rfl) (jc hd) rfl (h.tb _ (mTn 11 rfl) (jc (zcN hd)))
theorem zuO:NwS 20:=fun hR h hd=>zhe h (mIn 5 rfl) (jc hd) rfl (h.tb _ (mTn 13 rfl) (jc (zcN hd)))
theorem zuL:NwS 23:=fun hR h hd=>zhe h (mIn 6 rfl) (jc hd) rfl (h.tb _ (mTn 15 rfl) (jc (zcN hd)))
theorem zuI:NwS 26:=fun hR h hd=>zhe h (mIn 7 rfl) (jc hd) rfl (h.tb _ (mTn 17 rfl) (jc (zcN hd)))
theorem zuE:NwS 30:=fun hR h hd=>zhe h (mIn 8 rfl) (jc hd) rfl (h.tb _ (mTn 20 rfl) (jc (zcN hd)))
theorem zuA:NwS 34:=fun hR h hd=>zhe h (mIn 9 rfl) (jc hd) rfl (h.tb _ (mTn 23 rfl) (jc (zcN hd)))
theorem zuw:NwS 38:=fun hR h hd=>zhe h (mIn 10 rfl) (jc hd) rfl (h.tb _ (mTn 26 rfl) (jc (zcN hd)))
theorem JN.env (h:JN x q c bx cb R0 D E w) {i:Nat} (hi:i ∉ (nwT x q c bx).map (·.1)) {t:Nat} (ht:t ∉ (nwT x q c bx).map (·.2.1)) (v:Value):∀ p∈nwT x q c bx,(fun j=>Nat.beq j i||D j) p.1=true->Env.find (zcW (some t) v E) p.2.1=some p.2.2:=fun p hp hd=>by
 rw [zQ fun e=>ht (by rw [e];exact Kk (f:=fun p:Nat×Nat×Value=>p.2.1) hp)];exact h.tb p hp (orD hd fun e=>hi (by rw [<- e];exact Kk (f:=fun p:Nat×Nat×Value=>p.1) hp))
theorem zgW {i:Nat} (hi:i ∉ (nwI x).map (·.1)):lkD (fun j=>Nat.beq j i||D j) (nwI x)=lkD D (nwI x) :=
 zeN fun p hp=>zb6 fun e=>hi (by rw [<- e];exact Kk (f:=fun p:Nat×Bs×Value=>p.1) hp)
theorem zvJ (hR:R0N x q c bx cb R0) (hJ:JN x q c bx cb R0 D E w) (hD:D 2=false):zbx (sg 46) zc7 2 E w fun E' w'=>JN x q c bx cb R0 (fun j=>Nat.beq j 2||D j) E' w':=by
 obtain⟨h39,hk⟩:=hJ.o4 hD;have hlk:=zkn hk;refine⟨Value.map (some w.heap.size),w.alloc (.map #[] 0),rfl,?_⟩;have m3:MapF (key:=zbq) (w.alloc (.map #[] 0)) w.heap.size (fun (_:Bs)=>none):=MapF.new;refine⟨hJ.ds,zcq hJ.bs (.inl (by decide)) _,hJ.env (show 2 ∉ zkb by decide) (show 17 ∉ zld by decide) _,hJ.bl.trans ((zba _ _).mono hJ.bl.size),fun _=>⟨w.heap.size,hJ.bl.size,zbs,?_,fun hd=>?_,fun hd=>?_,fun hd=>?_⟩,hJ.o1,hJ.o2,hJ.o3,fun hd=>by cases hd⟩
 ·rw [zgW (show 2 ∉ zkw by decide),hlk];exact m3
 ·exact Gy (orD hd (by decide)) (by rw [h39];decide)
 ·exact Gy (hJ.o1 (orD hd (by decide))) (by rw [h39];decide)
 ·exact Gy (hJ.o1 (hJ.o2 (orD hd (by decide)))) (by rw [h39];decide)
theorem zuv (hR:R0N x q c bx cb R0) (hJ:JN x q c bx cb R0 D E w) (h2:D 2=true):zbx (sg 46) zc7 39 E w fun E' w'=>JN x q c bx cb R0 (fun j=>Nat.beq j 39||D j) E' w':=by
 obtain⟨mb,hM⟩:=hJ.mp h2;refine zaz (x := .tmp 17) hM.f ⟨hJ.ds,zcq hJ.bs (.inl (by decide)) _,hJ.env (show 39 ∉ zkb by decide) (show 43 ∉ zld by decide) _,hJ.bl,fun _=>⟨mb,hM.lo,(zQ (by decide)).trans hM.f,?_,fun _=>zbs,fun hd=>(zQ (by decide)).trans (hM.b (orD hd (by decide))),fun hd=>?_⟩,fun _=>rfl,hJ.o2,hJ.o3,fun hd=>Gy ((zb6 (by decide)).symm.trans hd) (by rw [h2];decide)⟩
 ·rw [zgW (show 39 ∉ zkw by decide)];exact hM.m
 ·obtain⟨bb,hlo,hbx,hf,h2⟩:=hM.e (orD hd (by decide));exact⟨bb,hlo,hbx,(zQ (by decide)).trans hf,fun hd=>(zQ (by decide)).trans (h2 (orD hd (by decide)))⟩
theorem zuu (hR:R0N x q c bx cb R0) (hJ:JN x q c bx cb R0 D E w) (h2:D 2=true) (h0:D 0=true) (h1:D 1=true) (h39:D 39=true):zbx (sg 46) zc7 40 E w fun E' w'=>JN x q c bx cb R0 (fun j=>Nat.beq j 40||D j) E' w':=by
 obtain⟨mb,hM⟩:=hJ.mp h2;refine zaz (x := .tmp 15) (v := .agg (exC x q c).toArray) (hJ.tb _ (mTn 0 rfl) h0) (zaz (x := .tmp 16) (v:=i64 (x.ev.length:Nat)) (hJ.tb _ (mTn 1 rfl) h1) (zaz (x := .tmp 43) (v := .map (some mb)) (hM.a h39) ⟨zfW x q c mb,zpS (zH x q c) zqG,hJ.ds,zcq hJ.bs (.inl (by decide)) _,hJ.env (show 40 ∉ zkb by decide) (show 44 ∉ zld by decide) _,hJ.bl,fun _=>⟨mb,hM.lo,(zQ (by decide)).trans hM.f,?_,fun hd=>(zQ (by decide)).trans (hM.a (orD hd (by decide))),fun _=>zbs,fun hd=>?_⟩,fun _=>h39,fun _=>rfl,hJ.o3,fun hd=>Gy ((zb6 (by decide)).symm.trans hd) (by rw [h2];decide)⟩))
 ·rw [zgW (show 40 ∉ zkw by decide)];exact hM.m
 ·obtain⟨bb,hlo,hbx,hf,h2⟩:=hM.e (orD hd (by decide));exact⟨bb,hlo,hbx,(zQ (by decide)).trans hf,fun hd=>(zQ (by decide)).trans (h2 (orD hd (by decide)))⟩
theorem zut (hR:R0N x q c bx cb R0) (hJ:JN x q c bx cb R0 D E w) (h2:D 2=true) (h40:D 40=true) (h41:D 41=false):zbx (sg 46) zc7 41 E w fun E' w'=>JN x q c bx cb R0 (fun j=>Nat.beq j 41||D j) E' w':=by
 obtain⟨mb,hM⟩:=hJ.mp h2;refine zaz (x := .tmp 44) (v := .agg (zfW x q c mb).toArray) (hM.b h40) ?_;have f1:(w.alloc (.cells (zfW x q c mb).toArray 120)).heap[w.heap.size]?=some (.cells (zfW x q c mb).toArray 120 (0,0)):=zA w _;have bw:=zba w (.cells (zfW x q c mb).toArray 120);refine⟨hJ.ds,zcq hJ.bs (.inl (by decide)) _,hJ.env (show 41 ∉ zkb by decide) (show 45 ∉ zld by decide) _,hJ.bl.trans (bw.mono hJ.bl.size),fun _=>⟨mb,hM.lo,(zQ (by decide)).trans hM.f,?_,fun hd=>(zQ (by decide)).trans (hM.a (orD hd (by decide))),fun hd=>(zQ (by decide)).trans (hM.b (orD hd (by decide))),fun _=>⟨w.heap.size,hJ.bl.size,f1,zbs,fun hd=>?_⟩⟩,hJ.o1,fun _=>h40,fun _=>rfl,fun hd=>Gy ((zb6 (by decide)).symm.trans hd) (by rw [h2];decide)⟩
 ·rw [zgW (show 41 ∉ zkw by decide)];exact hM.m.below bw
 ·exact Gy (hJ.o3 (orD hd (by decide))) (by rw [h41];decide)
theorem zus (hR:R0N x q c bx cb R0) (hJ:JN x q c bx cb R0 D E w) (h2:D 2=true) (h41:D 41=true):zbx (sg 46) zc7 42 E w fun E' w'=>JN x q c bx cb R0 (fun j=>Nat.beq j 42||D j) E' w':=by
 obtain⟨mb,hM⟩:=hJ.mp h2;obtain⟨bb,hlo,hbx,hf,_⟩:=hM.e h41;refine zaz (x := .tmp 45) (v:=At0 bb) hf ⟨hJ.ds,zcq hJ.bs (.inr rfl) _,hJ.env (show 42 ∉ zkb by decide) (show 2 ∉ zld by decide) _,hJ.bl,fun _=>⟨mb,hM.lo,(zQ (by decide)).trans hM.f,?_,fun hd=>(zQ (by decide)).trans (hM.a (orD hd (by decide))),fun hd=>(zQ (by decide)).trans (hM.b (orD hd (by decide))),fun _=>⟨bb,hlo,hbx,(zQ (by decide)).trans hf,fun _=>zbs⟩⟩,hJ.o1,hJ.o2,fun _=>h41,fun hd=>Gy ((zb6 (by decide)).symm.trans hd) (by rw [h2];decide)⟩;rw [zgW (show 42 ∉ zkw by decide)];exact hM.m
theorem JN.d2 (h:JN x q c bx cb R0 D E w) (h39:D 39=true):D 2=true:=by
 cases h2:D 2 with
 | true=>rfl
 | false=>rw [(h.o4 h2).1] at h39;cases h39
theorem zr4 {P:Nat->Prop} (h0:P 0) (h1:P 1) (h2:P 2) (h3:P 3) (h4:P 4) (h5:P 5) (h6:P 6) (h7:P 7) (h8:P 8) (h9:P 9) (h10:P 10) (h11:P 11) (h12:P 12) (h13:P 13) (h14:P 14) (h15:P 15) (h16:P 16) (h17:P 17) (h18:P 18) (h19:P 19) (h20:P 20) (h21:P 21) (h22:P 22) (h23:P 23) (h24:P 24) (h25:P 25) (h26:P 26) (h27:P 27) (h28:P 28) (h29:P 29) (h30:P 30) (h31:P 31) (h32:P 32) (h33:P 33) (h34:P 34) (h35:P 35) (h36:P 36) (h37:P 37) (h38:P 38) (h39:P 39) (h40:P 40) (h41:P 41) (h42:P 42) (hr:∀ i,P (i+43)):∀ i,P i
 | 0=>h0
 | 1=>h1
 | 2=>h2
 | 3=>h3
 | 4=>h4
 | 5=>h5
 | 6=>h6
 | 7=>h7
 | 8=>h8
 | 9=>h9
 | 10=>h10
 | 11=>h11
 | 12=>h12
 | 13=>h13
 | 14=>h14
 | 15=>h15
 | 16=>h16
 | 17=>h17
 | 18=>h18
 | 19=>h19
 | 20=>h20
 | 21=>h21
 | 22=>h22
 | 23=>h23
 | 24=>h24
 | 25=>h25
 | 26=>h26
 | 27=>h27
 | 28=>h28
 | 29=>h29
 | 30=>h30
 | 31=>h31
 | 32=>h32
 | 33=>h33
 | 34=>h34
 | 35=>h35
 | 36=>h36
 | 37=>h37
 | 38=>h38
 | 39=>h39
 | 40=>h40
 | 41=>h41
 | 42=>h42
 | i+43=>hr i
end
theorem zlD (hv:ExV w x q) (hT:Tz64M w):Calls PG 51 #[.agg (exC x q c).toArray] w fun e w'=>∃ bb mb,e = .returned (At0 bb)/\w.heap.size<=bb/\w.heap.size<=mb/\w'.heap[bb]?=some (.cells (zfW x q c mb).toArray 120 (0,0))/\MapF zbq w' mb (lkD (fun _=>true) (nwI x))/\Bw w w':=by
 have hn:=hv.n;refine zmc (S:=sg 46) (zbi _) (args:=[.agg (exC x q c).toArray]) (.c (.m .p) (.s (.m .p) (.s (.m .p) (.c (.m .p) (.c .i (.m .p)))))) Tryz.func51 rfl rfl (JS rfl) rfl ?_;refine⟨Unit,fun _=>⟨[(1,At0 w.heap.size)],[]⟩,fun _ X=>ExH X w.heap.size x q c/\Bw w X,⟨(),(cvE rfl rfl),zA w _,zba _ _⟩,?_⟩;rintro _ X ⟨fX,bX⟩;refine⟨_,zaL (za fX),cmo zhG ?_⟩;rintro e Y ⟨rfl,h⟩;subst h;refine⟨Nat,fun cb=>⟨nwB x w.heap.size cb,[]⟩,fun cb R=>R0N x q c w.heap.size cb R/\Bw w R,?_,?_⟩
 ·refine cmo (zne (by omega) (jY _) (jY _)) ?_;rintro e Y ⟨rfl,bY⟩;have b1:=zst bX bY;refine zk (X:=Y) (v := .agg (ze (crX x)).toArray) k30 (zf _) rfl (zK _) fun Z hbZ fZ sZ=>?_;have b2:=zst b1 hbZ;exact⟨Y.heap.size,(cvE rfl rfl),⟨zb hbZ (zb bY fX),fZ,hv.below b2,hT.below b2⟩,b2⟩
 clear fX bX X;rintro cb R0 ⟨hR,b0⟩;refine⟨Nat×Nat,fun y=>⟨[(2,At0 y.1)],[]⟩,fun y X=>w.heap.size<=y.1/\w.heap.size<=y.2/\X.heap[y.1]?=some (.cells (zfW x q c y.2).toArray 120 (0,0))/\MapF zbq X y.2 (lkD (fun _=>true) (nwI x))/\Bw w X,?_,?_⟩
 ·refine⟨by kernel_rfl,fun D E w'=>JN x q c w.heap.size cb R0 D E w',?_,?_,?_⟩
  ·exact⟨rfl,.cons rfl (.cons rfl (.cons rfl (.cons rfl .nil))),(fun p _ h=>by cases h),(Gh _ _).drew,(fun h=>by cases h),(fun h=>by cases h),(fun h=>by cases h),(fun h=>by cases h),fun _=>⟨rfl,fun _ _=>rfl⟩⟩
  ·intro D E w' i hJ hD hdep;have key:∀ i,D i=false->zhs zc7 D i=true->zbx (sg 46) zc7 i E w' fun E' w''=>JN x q c w.heap.size cb R0 (fun j=>Nat.beq j i||D j) E' w'':=by
    refine zr4 (P:=fun i=>D i=false->zhs zc7 D i=true->zbx (sg 46) zc7 i E w' fun E' w''=>JN x q c w.heap.size cb R0 (fun j=>Nat.beq j i||D j) E' w'')
     (fun _ hd=>zvL hR hJ hd)
     (fun _ hd=>zvK hR hJ hd)
     (fun hD _=>zvJ hR hJ hD)
     (fun _ hd=>zvI hR hJ hd)
     (fun _ hd=>zvH hR hJ hd)
     (fun _ hd=>zvG hR hJ hd)
     (fun _ hd=>zvF hR hJ hd)
     (fun _ hd=>zvE hR hJ hd)
     (fun _ hd=>zvD hR hJ hd)
     (fun _ hd=>zvC hR hJ hd)
     (fun _ hd=>zuY hR hJ hd)
     (fun _ hd=>zuX hR hJ hd)
     (fun _ hd=>zuW hR hJ hd)
     (fun _ hd=>zuV hR hJ hd)
     (fun _ hd=>zuU hR hJ hd)
     (fun _ hd=>zuT hR hJ hd)
     (fun _ hd=>zuS hR hJ hd)
     (fun _ hd=>zuR hR hJ hd)
     (fun _ hd=>zuQ hR hJ hd)
     (fun _ hd=>zuP hR hJ hd)
     (fun _ hd=>zuO hR hJ hd)
     (fun _ hd=>zuN hR hJ hd)
     (fun _ hd=>zuM hR hJ hd)
     (fun _ hd=>zuL hR hJ hd)
     (fun _ hd=>zuK hR hJ hd)
     (fun _ hd=>zuJ hR hJ hd)
     (fun _ hd=>zuI hR hJ hd)
     (fun _ hd=>zuH hR hJ hd)
     (fun _ hd=>zuG hR hJ hd)
     (fun _ hd=>zuF hR hJ hd)
     (fun _ hd=>zuE hR hJ hd)
     (fun _ hd=>zuD hR hJ hd)
     (fun _ hd=>zuC hR hJ hd)
     (fun _ hd=>zuB hR hJ hd)
     (fun _ hd=>zuA hR hJ hd)
     (fun _ hd=>zuz hR hJ hd)
     (fun _ hd=>zuy hR hJ hd)
     (fun _ hd=>zux hR hJ hd)
     (fun _ hd=>zuw hR hJ hd)
     (fun _ hd=>zuv hR hJ (jc hd))
     (fun _ hd=>zuu hR hJ (hJ.d2 (jc (zcN (zcN hd)))) (jc hd) (jc (zcN hd)) (jc (zcN (zcN hd))))
     (fun hD hd=>zut hR hJ (hJ.d2 (hJ.o1 (jc hd))) (jc hd) hD)
     (fun hD hd=>zus hR hJ (hJ.d2 (hJ.o1 (hJ.o2 (jc hd)))) (jc hd))
     ?_
    exact fun i _ _=>trivial
   exact key i hD hdep
  ·intro D E w' hall hJ;obtain⟨mb,hM⟩:=hJ.mp (hall 2 (by decide));obtain⟨bb,hlo,hbx,_,h2⟩:=hM.e (hall 41 (by decide));have e1:lkD D (nwI x)=lkD (fun _=>true) (nwI x):=(zeN fun p hp=>(hall p.1 (ztc p hp)).symm).symm;exact⟨(bb,mb),⟨.cons (h2 (hall 42 (by decide))) .nil,hJ.ds⟩,UT b0.size hlo,UT b0.size hM.lo,hbx,by rw [<- e1];exact hM.m,b0.trans (hJ.bl.mono b0.size)⟩
 rintro⟨bb,mb⟩ X ⟨h1,h2,f1,m1,b1⟩;exact⟨bb,mb,rfl,h1,h2,f1,m1,b1⟩
end
structure WldH (x:ExD) (q:OA) (c bb mb:Nat) (g:Bs->RelD) (Y:Wd):Prop where
 f:Y.heap[bb]?=some (.cells (zfW x q c mb).toArray 120 (0,0))
 m:∃ h,MapF zbq Y mb h/\∀ s,(h s).getD (zai zB)=zai (g s)
 w:∀ s,zI (g s).to
 v:ExV Y x q
 t:Tz64M Y
section
variable {x:ExD} {q:OA} {c bb mb:Nat} {g:Bs->RelD} {w Y Z:Wd}
theorem WldH.below (h:WldH x q c bb mb g Y) (hb:Bw Y Z):WldH x q c bb mb g Z:=by
 obtain⟨k,hk,hg⟩:=h.m;exact⟨zb hb h.f,⟨k,hk.below hb,hg⟩,h.w,h.v.below hb,h.t.below hb⟩
def zvf (x:ExD) (q:OA) (c bb mb:Nat) (t:Trm):Prop:=∀ {g:Bs->RelD} {Y:Wd} {p:OA} {cap:Nat},WldH x q c bb mb g Y->KidsT jL Y p t.kids->t.name.length<=140737488351232 ->
 Calls PG 52 #[At0 bb,.agg (zd t p cap).toArray] Y fun e w'=>e = .returned (.agg (ze (valT x g t)).toArray)/\Bw Y w'/\zI (valT x g t).to
theorem zjB (x:ExD) (q:OA) (c mb:Nat):(zfW x q c mb)[334]?=some (.map (some mb)):=by
 unfold zfW;rw [Jl (by rw [zH];decide),zH];rfl
theorem zu1 (h:WldH x q c bb mb g Y) (s:Bs) {w2:Wd} (hb:Bw Y w2):(Instr.lookup 118 (.map (some mb)) (zn s) false).run PG w2 = .ok (zai (g s)) w2:=by
 obtain⟨k,hk,hg⟩:=h.m;have:=zgZ zjL Tryz.underlying118 (z:=zai zB) (zjx (by kernel_rfl)) (hk.below hb) s false;refine this.trans ?_;rw [Gw (by decide),hg]
theorem zow (s:Bs) (kids:List Trm):zvf x q c bb mb (.mk 1 s kids):=by
 intro g Y p cap hW hK hl;refine z6 91 [At0 bb,.agg (zd (.mk 1 s kids) p cap).toArray] (.c .p .p) Tryz.func52 ?_;have hv:valT x g (.mk 1 s kids)=g s:=by rw [valT];rfl
 rw [hv];obtain⟨L,hL⟩:=nm (Y.heap.size);refine⟨Unit,fun _=>⟨[(0,At0 bb),(3,At0 L),(4,At0 (L+1))],[]⟩,fun _ X=>X.heap[L]?=some (.cells (zd (.mk 1 s kids) p cap).toArray 24 (0,0))/\qj X (L+1) zB/\Bw Y X,?_,?_⟩
 ·obtain⟨W1,e1⟩:=nm (Y.alloc (.cells (zd (.mk 1 s kids) p cap).toArray 24));have n1:W1.heap.size=L+1:=by rw [e1,hL];exact wz _ _
  have f1:W1.heap[L]?=some (.cells (zd (.mk 1 s kids) p cap).toArray 24 (0,0)):=by rw [e1,hL];exact zA Y _
  have b1:Bw Y W1:=by rw [e1];exact zba _ _
  obtain⟨W2,e2⟩:=nm (W1.alloc (.cells (ze zB).toArray 30));have f2:qj W2 (L+1) zB:=by rw [e2,<- n1];exact zA W1 _
  have b2:Bw W1 W2:=by rw [e2];exact zba _ _
  have key:W2.heap[L]?=some (.cells (zd (.mk 1 s kids) p cap).toArray 24 (0,0))/\qj W2 (L+1) zB/\Bw Y W2:=⟨zb b2 f1,f2,zst b1 b2⟩;rw [e2,e1] at key;refine⟨(),⟨.cons rfl (.cons (by rw [hL];rfl) (.cons ?_ .nil)),rfl⟩,key⟩;show some (At0 (Y.alloc (.cells (zd (.mk 1 s kids) p cap).toArray 24)).heap.size)=_;rw [wz,hL]
 rintro _ X ⟨f1,f0,bX⟩;refine⟨_,zc (za f1) (i:=0) rfl,Gm (fun _=>DrawE.ord [7] [0,1,2,3,4,5,6,7] (by kernel_rfl) ?_) (fun h=>Gy (show true=false from h) (by decide))⟩;have hX:=hW.below bX;exact⟨_,zc (za (hdr hX.f)) (i:=334) (zjB x q c mb),_,zc (za (hdr f1)) (i:=1) rfl,_,fun w2 hb=>zu1 hX s ((Gh _ X).drew.trans hb),zy (v := .agg (ze (g s)).toArray) k30 (hdr f0) (zf _) (zf _) (zK _) ⟨ze (g s),zf _,za (zq (hdr f0)),rfl,zl bX.drew (by omega) _,hW.w s⟩⟩
end
def zv2:Prop:=∀ {r:RelD} {Y:Wd},zI r.to->CB 69 #[.agg (ze r).toArray] Y (.bool (ztm r))
def zeS (ls:List LineD) (x:ExD):Bool×Bs×Int:=match zlN ls x with
 | none=>(false,[],2)
 | some (b,s)=>(b,s,0)
section
variable {x:ExD} {q p:OA} {c cap bb mb L:Nat} {g:Bs->RelD} {w X Y Z:Wd} {ls:List LineD}
theorem zlS (h:(jt ls).isSome=true):∀ l∈ls,l.kind<=3/\l.name.length<=16/\VT l.term:=by
 unfold jt at h
 split at h
 ·cases h
 ·split at h
  ·cases h
  ·rename_i lets e;exact (zdd ls _ _ 0 lets (fun s hs=>by cases hs) (by decide) e).1
theorem zcY:zI zB.to:=fun i _=>(by show 0<2^64;decide)
theorem jn {P:Prop} [Decidable P] {a b:RelD} (h1:P->zI a.to) (h2:¬ P->zI b.to):zI (if P then a else b).to:=by
 by_cases h:P
 ·rw [Gx h];exact h1 h
 ·rw [Gw h];exact h2 h
theorem znE (hv:ExV w x q) (hT:Tz64M w) (s:Bs):zI (zew x s).to:=by
 have hn:=hv.n;have loc:zI (zrk x).to:=zeB (by omega);have it:∀ r,zcn x r=true->zI (zhO x r).to/\zI (zn2 x r).to:=fun r h=>by
  have:=(zd7 h).2.1;exact⟨zeB (by omega),zeB (by omega)⟩
 have idw:zI (idR x.ev.length (zax x.ev.length)).to:=zdF fun i _ _=>KE Ua (jY _);exact jn (fun _=>hv.po) fun _=>jn (fun _=>hv.rf) fun _=>jn (fun _=>hv.co) fun _=>jn (fun _=>hv.rm) fun _=>jn (fun _=>hv.dt) fun _=>jn (fun _=>hv.ct) fun _=>jn (fun _=>jn (fun _=>(zpQ hv hT).2) fun _=>zcY) fun _=>jn (fun _=>jn (fun _=>loc) fun _=>zcY) fun _=>jn (fun _=>idw) fun _=>jn (fun _=>jn (fun h=>(it _ h).1) fun _=>zcY) fun _=>jn (fun _=>jn (fun h=>(it _ h).2) fun _=>zcY) fun _=>zcY
theorem zpl (s:Bs):(lkD (fun _=>true) (nwI x) s).getD (zai zB)=zai (zew x s):=by
 unfold zew;simp only [lkD,nwI,crX,Gu];by_cases h1:s=[112,111]
 ·simp only [Gx h1,QE]
 by_cases h2:s=[114,102]
 ·simp only [Gw h1,Gx h2,QE]
 by_cases h3:s=[99,111]
 ·simp only [Gw h1,Gw h2,Gx h3,QE]
 by_cases h4:s=[114,109,119]
 ·simp only [Gw h1,Gw h2,Gw h3,Gx h4,QE]
 by_cases h5:s=[100,97,116,97]
 ·simp only [Gw h1,Gw h2,Gw h3,Gw h4,Gx h5,QE]
 by_cases h6:s=[99,116,114,108]
 ·simp only [Gw h1,Gw h2,Gw h3,Gw h4,Gw h5,Gx h6,QE]
 by_cases h7:s=[102,114]
 ·simp only [Gw h1,Gw h2,Gw h3,Gw h4,Gw h5,Gw h6,Gx h7,QE]
 by_cases h8:s=[108,111,99]
 ·simp only [Gw h1,Gw h2,Gw h3,Gw h4,Gw h5,Gw h6,Gw h7,Gx h8,QE]
 by_cases h9:s=[105,100]
 ·simp only [Gw h1,Gw h2,Gw h3,Gw h4,Gw h5,Gw h6,Gw h7,Gw h8,Gx h9,QE]
 by_cases h10:s=[101,120,116]
 ·simp only [Gw h1,Gw h2,Gw h3,Gw h4,Gw h5,Gw h6,Gw h7,Gw h8,Gw h9,Gx h10,QE]
 by_cases h11:s=[105,110,116]
 ·simp only [Gw h1,Gw h2,Gw h3,Gw h4,Gw h5,Gw h6,Gw h7,Gw h8,Gw h9,Gw h10,Gx h11,QE]
 simp only [Gw h1,Gw h2,Gw h3,Gw h4,Gw h5,Gw h6,Gw h7,Gw h8,Gw h9,Gw h10,Gw h11,Option.getD_none]
theorem WldH.put (h:WldH x q c bb mb g Y) (hv:ExV w x q) (hT:Tz64M w) (hb:Bw w Y) (hmb:w.heap.size<=mb) (nq:Bs) {r:RelD} (hr:zI r.to) {K:Wd->Prop} (k:∀ V,WldH x q c bb mb (zro g nq r) V->Bw w V->(∀ (j:Nat) (cs:Array Value) (t:TypeId) (fr:Nat×Nat),Y.heap[j]?=some (Obj.cells cs t fr)->V.heap[j]?=some (Obj.cells cs t fr))->K V) :
  SatR ((Instr.mapUpdate 118 (.map (some mb)) (zn nq) (zai r)).run PG Y) fun _ w'=>K w':=by
 obtain⟨f,hf,hg⟩:=h.m;obtain⟨o,hrun,hm⟩:=jN zjL Tryz.underlying118 hf nq (zai r);have hne:∀ j,(∃ (cs:Array Value) (t:TypeId) (fr:Nat×Nat),Y.heap[j]?=some (Obj.cells cs t fr))->j≠mb:=by
  intro j hj0 e;subst e;obtain⟨cs,t,fr,hj⟩:=hj0;obtain⟨es,cl,hh,_⟩:=hf;rw [hh] at hj;cases hj
 have hput:∀ (j:Nat) (cs:Array Value) (t:TypeId) (fr:Nat×Nat),Y.heap[j]?=some (Obj.cells cs t fr)->(Y.putObj mb o).heap[j]?=some (Obj.cells cs t fr):=fun j cs t fr hj=>(zj (hne j ⟨_,_,_,hj⟩)).trans hj;have bV:Bw w (Y.putObj mb o):=qX hb hmb o;refine⟨_,_,hrun,k _ ⟨hput _ _ _ _ h.f,⟨_,hm,fun s=>?_⟩,fun s=>jn (fun _=>hr) fun _=>h.w s,hv.below bV,hT.below bV⟩ bV hput⟩;unfold zro;by_cases hs:s=nq
 ·rw [Gx hs,Gx hs];rfl
 ·rw [Gw hs,Gw hs];exact hg s
structure HoM (w:Wd) (ls:List LineD) (p:OA) (cap:Nat) (x:ExD) (q:OA) (c L:Nat) (X:Wd):Prop where
 m:X.heap[L]?=some (.cells #[.slice p ls.length cap] 47 (0,0))
 e:ExH X (L+1) x q c
 b:Bw w X
theorem HoM.below (h:HoM w ls p cap x q c L X) (hb:Bw X Y):HoM w ls p cap x q c L Y:=⟨zb hb h.m,zb hb h.e,h.b.trans (hb.mono h.b.size)⟩
theorem zml (hg:GlobK w) (hM:LinsM jL w p ls) (hlen:ls.length<=140737488351232) (hv:ExV w x q) (hT:Tz64M w) (hval:∀ bb mb,∀ l∈ls,VT l.term->zvf x q c bb mb l.term) (hirr:∀ l∈ls,l.kind=2->zv2) :
  CB 29 #[.agg #[.slice p ls.length cap],.agg (exC x q c).toArray] w (.tuple #[.bool (zeS ls x).1,zn (zeS ls x).2.1,i64 (zeS ls x).2.2]):=by
 refine z6 61 [.agg #[.slice p ls.length cap],.agg (exC x q c).toArray] (.c .p (.c (.s .p .p) (.c .p (.s (.s .p (.b (.l (.s .p (.s .p (.s (.b (.c .p (.c .p (.s .p (.c (.s .p (.b .p)) (.s .p .p)))))) .p)))))) .p)))) Tryz.func29 ?_;obtain⟨L,hL⟩:=nm (w.heap.size);refine⟨Unit,fun _=>⟨[(2,At0 L),(3,At0 (L+1))],[]⟩,fun _ X=>HoM w ls p cap x q c L X,?_,?_⟩
 ·obtain⟨W1,e1⟩:=nm (w.alloc (.cells #[.slice p ls.length cap] 47));have n1:W1.heap.size=L+1:=by rw [e1,hL];exact wz _ _
  have f1:W1.heap[L]?=some (.cells #[.slice p ls.length cap] 47 (0,0)):=by rw [e1,hL];exact zA w _
  have b1:Bw w W1:=by rw [e1];exact zba _ _
  obtain⟨W2,e2⟩:=nm (W1.alloc (.cells (exC x q c).toArray 37));have f2:ExH W2 (L+1) x q c:=by rw [e2,<- n1];exact zA W1 _
  have b2:Bw W1 W2:=by rw [e2];exact zba _ _
  have key:HoM w ls p cap x q c L W2:=⟨zb b2 f1,f2,zst b1 b2⟩;rw [e2,e1] at key;refine⟨(),⟨.cons (by rw [hL];rfl) (.cons ?_ .nil),rfl⟩,key⟩;show some (At0 (w.alloc (.cells #[.slice p ls.length cap] 47)).heap.size)=_;rw [wz,hL]
 rintro _ X hX;have no:((jt ls).isSome&&ja x)=false->zeS ls x=(false,[],2):=fun h=>by unfold zeS zlN;rw [h];rfl
 refine⟨Unit,fun _=>⟨[(2,At0 L),(3,At0 (L+1))],[]⟩,fun _ X=>HoM w ls p cap x q c L X/\(jt ls).isSome=true/\ja x=true,?_,?_⟩
 ·refine⟨_,rfl,za hX.m,hlt hX.m,cmo (zeh (cap:=cap) (hg.below hX.b) (hM.below hX.b) hlen) ?_⟩;rintro e Y ⟨rfl,bY⟩;have hY:=hX.below bY;refine biE (fun h=>?_) fun h=>?_
  ·have h:(!(jt ls).isSome)=true:=h;refine brT ?_;rw [no (by rw [zi6 h];rfl)];exact⟨rfl,hY.b⟩
  ·have h:(!(jt ls).isSome)=false:=h;refine⟨exC x q c,zH _ _ _,za hY.e,hlt hY.e,cmo (ze7 (hv.below hY.b) (hT.below hY.b)) ?_⟩;rintro e Z ⟨rfl,bZ⟩;have hZ:=hY.below bZ;refine biE (fun h2=>?_) fun h2=>?_
   ·have h2:(!ja x)=true:=h2;rw [no (by rw [zi6 h2,Uk])];exact⟨rfl,hZ.b⟩
   ·have h2:(!ja x)=false:=h2;exact⟨(),(cvE rfl rfl),hZ,zi5 h,zi5 h2⟩
 clear hX X;rintro _ X ⟨hX,hsome,hright⟩;have hkinds:=zlS hsome;have hres:zeS ls x=((zdN x (zew x) ls).1,(zdN x (zew x) ls).2,0):=by
  unfold zeS zlN;rw [hsome,hright];rfl
 rw [hres];obtain⟨R,hR⟩:=nm (zdN x (zew x) ls);rw [<- hR];refine⟨Nat×Nat,fun y=>⟨[(2,At0 L),(7,At0 y.1)],[]⟩,fun y X=>HoM w ls p cap x q c L X/\w.heap.size<=y.2/\WldH x q c y.1 y.2 (zew x) X,?_,?_⟩
 ·refine⟨exC x q c,zH _ _ _,za hX.e,hlt hX.e,cmo (zlD (hv.below hX.b) (hT.below hX.b)) ?_⟩;rintro e Y ⟨bb,mb,rfl,h1,h2,f1,m1,b1⟩;have hY:=hX.below b1;exact⟨(bb,mb),(cvE rfl rfl),hY,UT hX.b.size h2,f1,⟨_,m1,zpl⟩,znE hv hT,hv.below hY.b,hT.below hY.b⟩
 clear hX X;rintro⟨bb,mb⟩ X ⟨hX,hmb,hW⟩;dsimp only at hmb hW ⊢;refine⟨_,zc (za hX.m) (i:=0) rfl,Nat×(Bs->RelD),fun y=>⟨[(2,At0 L),(7,At0 bb),(23,.slice p ls.length cap),(24,i64 (ls.length:Nat)),(25,.int .i64 (y.1:Nat))],[]⟩,fun y X=>HoM w ls p cap x q c L X/\WldH x q c bb mb y.2 X/\y.1<=ls.length/\R=zdN x y.2 (ls.drop y.1),fun y=>ls.length-y.1,(0,zew x),(cvE rfl rfl),⟨hX,hW,Ge _,hR⟩,?_⟩;clear hX hW hR hres X;rintro⟨i,g⟩ X ⟨hX,hW,hi,hR⟩;dsimp only at hW hi hR ⊢;refine biE (fun hc=>?_) fun hc=>?_
 ·have hc:(i:Int)<(ls.length:Int):=dT hc;have hil:i<ls.length:=by omega
  rw [Jo hil,zdN] at hR;obtain⟨u,hu⟩:=nm (ls[i]);have hum:u∈ls:=by rw [hu];exact gM hil
  rw [<- hu] at hR;obtain⟨k3,kn,kv⟩:=hkinds u hum;obtain⟨b1,o1,q1,c1,rfl,e1,s1,_,_,m1,kk⟩:=(hM.below hX.b).line hil;rw [<- hu] at e1 m1 kk;refine⟨Nat,fun b9=>⟨[(2,At0 L),(7,At0 bb),(9,At0 b9),(23,.slice (some ⟨b1,o1,none⟩) ls.length cap),(24,i64 (ls.length:Nat)),(25,.int .i64 (i:Nat))],[]⟩,fun b9 Y=>HoM w ls (some ⟨b1,o1,none⟩) cap x q c L Y/\WldH x q c bb mb g Y/\Y.heap[b9]?=some (.cells (zz u.kind u.name u.term q1 c1).toArray 49 (0,0))/\KidsT jL Y q1 u.term.kids,?_,?_⟩
  ·exact⟨i,rfl,hil,_,rfl,e1,s1,zk (X:=X) (v := .agg (zz u.kind u.name u.term q1 c1).toArray) k49 rfl rfl rfl fun Y hbY fY sY=>⟨X.heap.size,(cvE rfl rfl),hX.below hbY,hW.below hbY,fY,kk.kept hbY⟩⟩
  clear hX hW e1 s1 kk X;rintro b9 X ⟨hX,hW,fx,kk⟩;obtain⟨v,hv'⟩:∃ v,v=valT x g u.term:=⟨_,rfl⟩;rw [<- hv'] at hR;refine⟨Nat,fun b10=>⟨[(2,At0 L),(7,At0 bb),(9,At0 b9),(10,At0 b10),(23,.slice (some ⟨b1,o1,none⟩) ls.length cap),(24,i64 (ls.length:Nat)),(25,.int .i64 (i:Nat))],[]⟩,fun b10 Y=>HoM w ls (some ⟨b1,o1,none⟩) cap x q c L Y/\WldH x q c bb mb g Y/\Y.heap[b9]?=some (.cells (zz u.kind u.name u.term q1 c1).toArray 49 (0,0))/\qj Y b10 v/\zI v.to,?_,?_⟩
  ·have t1:zo X ⟨b9,0+2,none⟩ (zd u.term q1 c1):=qz (o:=2) (n:=3) fx;refine⟨_,rfl,t1,hlt fx,cmo (hval bb mb u hum kv hW kk m1) ?_⟩;rintro e Y ⟨rfl,bY,hw⟩;rw [<- hv'] at hw ⊢;exact zk (X:=Y) (v := .agg (ze v).toArray) k30 (zf _) (by kernel_rfl) (zK _) fun Z hbZ fZ sZ=>⟨Y.heap.size,(cvE rfl rfl),(hX.below bY).below hbZ,(hW.below bY).below hbZ,zb hbZ (zb bY fx),fZ,hw⟩
  clear hX hW fx kk X;rintro b10 X ⟨hX,hW,fx,fv,hw⟩;refine⟨Bool×(Bs->RelD),fun y=>⟨[(2,At0 L),(7,At0 bb),(9,At0 b9),(11,.bool y.1),(23,.slice (some ⟨b1,o1,none⟩) ls.length cap),(24,i64 (ls.length:Nat)),(25,.int .i64 (i:Nat))],[]⟩,fun y Y=>HoM w ls (some ⟨b1,o1,none⟩) cap x q c L Y/\WldH x q c bb mb y.2 Y/\Y.heap[b9]?=some (.cells (zz u.kind u.name u.term q1 c1).toArray 49 (0,0))/\R=(if y.1=true then zdN x y.2 (ls.drop (i+1)) else (false,u.name)),?_,?_⟩
  ·refine⟨_,zc (za fx) (i:=0) rfl,biE (fun h0=>?_) fun h0=>?_⟩
   ·have h0:((u.kind:Nat):Int)=0:=dT h0;rw [Gx (by omega)] at hR;have bd:=(Gh X.heap.size X).drew;exact DrawE.ord [7] [0,1,2,3,4,5,6,7] (by kernel_rfl) ⟨_,zc (za (hdr hW.f)) (i:=334) (zjB x q c mb),_,zc (za (hdr fx)) (i:=1) rfl,ze v,zf _,za (hdr fv),hlt (hdr fv),WldH.put (hW.below bd) hv hT hX.b.drew hmb u.name hw fun V hV bV keep=>⟨(true,zro g u.name v),(cvE rfl rfl),⟨keep _ _ _ _ (hdr hX.m),keep _ _ _ _ (hdr hX.e),bV⟩,hV,keep _ _ _ _ (hdr fx),hR⟩⟩
   have h0:¬ ((u.kind:Nat):Int)=0:=dF h0;rw [Gw (by omega)] at hR;refine biE (fun h1=>?_) fun h1=>?_
   ·have h1:((u.kind:Nat):Int)=1:=dT h1;rw [Gx (by omega:u.kind=1)] at hR;refine⟨ze v,zf _,za fv,hlt fv,cmo (ziJ hw (hW.t)) ?_⟩;rintro e Y ⟨rfl,bY⟩;exact⟨(zjt v,g),(cvE rfl rfl),hX.below bY,hW.below bY,zb bY fx,by rw [hR]⟩
   have h1:¬ ((u.kind:Nat):Int)=1:=dF h1;rw [Gw (by omega:¬ u.kind=1)] at hR;refine biE (fun h2=>?_) fun h2=>?_
   ·have h2:((u.kind:Nat):Int)=2:=dT h2;rw [Gx (by omega:u.kind=2)] at hR;refine⟨ze v,zf _,za fv,hlt fv,cmo (hirr u hum (by omega) hw) ?_⟩;rintro e Y ⟨rfl,bY⟩;exact⟨(ztm v,g),(cvE rfl rfl),hX.below bY,hW.below bY,zb bY fx,by rw [hR]⟩
   have h2:¬ ((u.kind:Nat):Int)=2:=dF h2;rw [Gw (by omega:¬ u.kind=2)] at hR;refine biE (fun h3=>?_) fun h3=>?_
   ·refine⟨ze v,zf _,za fv,hlt fv,cmo (zsl hw) ?_⟩;rintro e Y ⟨rfl,bY⟩;exact⟨(zho v,g),(cvE rfl rfl),hX.below bY,hW.below bY,zb bY fx,by rw [hR]⟩
   ·have h3:¬ ((u.kind:Nat):Int)=3:=dF h3;omega
  clear hX hW fx fv hR X;rintro⟨ok,g2⟩ X ⟨hX,hW,fx,hR⟩;dsimp only at hW hR ⊢;refine biE (fun h=>?_) fun h=>?_
  ·have h:(!ok)=true:=h;rw [zi6 h,Gw (by decide)] at hR;refine DrawE.ord [] [0,1,2,3,4] (by kernel_rfl) ⟨_,zc (za (hdr fx)) (i:=1) rfl,?_⟩;rw [hR];exact⟨rfl,hX.b.drew⟩
  ·have h:(!ok)=false:=h;rw [zi5 h,Gx rfl] at hR;exact nxI (by omega) ⟨(i+1,g2),(cvE rfl rfl),⟨hX,hW,hil,hR⟩,zdc (by omega)⟩
 ·have hc:¬ (i:Int)<(ls.length:Int):=dF hc;rw [JA (by omega),zdN] at hR;rw [hR];exact⟨rfl,hX.b⟩
end
section
variable {x:ExD} {q p:OA} {c cap bb mb L:Nat} {g:Bs->RelD} {w X Y:Wd} {t:Trm} {kids:List Trm} {r:RelD}
structure VaB (x:ExD) (q:OA) (c bb mb:Nat) (g:Bs->RelD) (w:Wd) (L:Nat) (t:Trm) (p:OA) (cap:Nat) (X:Wd):Prop where
 tm:X.heap[L]?=some (.cells (zd t p cap).toArray 24 (0,0))
 z:qj X (L+1) zB
 k:KidsT jL X p t.kids
 wd:WldH x q c bb mb g X
 b:Bw w X
theorem VaB.below (h:VaB x q c bb mb g w L t p cap X) (hb:Bw X Y):VaB x q c bb mb g w L t p cap Y :=
 ⟨zb hb h.tm,zb hb h.z,h.k.kept hb,h.wd.below hb,zst h.b hb⟩
end
structure EvB (w:Wd) (ls:List LineD) (p:OA) (cap:Nat) (t:Trm) (tq:OA) (tc:Nat) (x:ExD) (q:OA) (c L:Nat) (X:Wd):Prop where
 t:X.heap[L]?=some (.cells (zd t tq tc).toArray 24 (0,0))
 m:X.heap[L+1]?=some (.cells #[.slice p ls.length cap] 47 (0,0))
 e:ExH X (L+2) x q c
 z:qj X (L+3) zB
 b:Bw w X
 s:L+4<=X.heap.size
section
variable {x:ExD} {q p tq:OA} {c cap tc L:Nat} {w X Y:Wd} {ls:List LineD} {t:Trm}
theorem EvB.upto (h:EvB w ls p cap t tq tc x q c L X) (hL:w.heap.size<=L+4) (hb:Below (L+4) X Y):EvB w ls p cap t tq tc x q c L Y :=
 ⟨(hb.block _ (by omega)).trans h.t,(hb.block _ (by omega)).trans h.m,(hb.block _ (by omega)).trans h.e,(hb.block _ (by omega)).trans h.z,h.b.trans (hb.mono hL),UT h.s hb.size⟩
theorem EvB.below (h:EvB w ls p cap t tq tc x q c L X) (hL:w.heap.size<=L+4) (hb:Bw X Y):EvB w ls p cap t tq tc x q c L Y:=h.upto hL (hb.mono h.s)
end
mutual
def nodesA:Trm->Nat
 | .mk _ _ kids=>nodesAL 1 kids
def nodesAL:Nat->List Trm->Nat
 | n,[]=>n
 | n,k::r=>if n > 500 then n else nodesAL (n+nodesA k) r
end
mutual
def depthT:Trm->Nat
 | .mk _ _ kids=>1+depthL kids
def depthL:List Trm->Nat
 | []=>0
 | k::r=>max (depthT k) (depthL r)
end
def zal:Nat->Trm->Bool
 | 0,_=>false
 | m+1,.mk k s kids=>decide (kids.length<=3)&&(kids.all (zal m)&&decide (nodesA (.mk k s kids)<=500))
theorem ziA:∀ {l:List Trm} {t:Trm},t∈l->depthT t<=depthL l
 | a::r,t,h=>by
  rw [depthL];rcases UF.1 h with rfl | h
  ·omega
  ·have:=ziA h;omega
theorem zfw:∀ {l:List Trm} {d:Nat},(∀ t∈l,depthT t<=d)->depthL l<=d
 | [],d,h=>by rw [depthL];omega
 | a::r,d,h=>by
  rw [depthL];have h1:=h a (Kz ..);have h2:=zfw (l:=r) fun t ht=>h t (JW _ ht);omega
theorem zcD:∀ (m:Nat) (t:Trm),zal m t=true->depthT t<=m
 | 0,t,h=>by rw [zal] at h;cases h
 | m+1,.mk k s kids,h=>by
  rw [zal,bAT,bAT,Qk] at h;rw [depthT];have:=zfw (l:=kids) (d:=m) fun t ht=>zcD m t (h.2.1 t ht);omega
mutual
theorem nodesA_le:∀ t,nodesA t<=501*depthT t
 | .mk k s kids=>by
  rw [nodesA,depthT];have:=nodesAL_le kids 1;omega
theorem nodesAL_le:∀ (l:List Trm) (n:Nat),nodesAL n l<=max n (500+501*depthL l)
 | [],n=>by rw [nodesAL];omega
 | k::r,n=>by
  rw [nodesAL,depthL]
  split
  ·omega
  ·have h1:=nodesA_le k;have h2:=nodesAL_le r (n+nodesA k);omega
end
section
variable {w:Wd}
def zt0 (t:Trm):Prop:=∀ (q:OA) (cap:Nat) (w:Wd),depthT t<=1000000->KidsT jL w q t.kids ->
 CB 9 #[.agg (zd t q cap).toArray] w (i64 (nodesA t:Nat))
theorem ztd {k:UInt8} {s:Bs} {kids:List Trm} (ih:∀ y∈kids,zt0 y):zt0 (.mk k s kids):=by
 intro q cap w hd hK;refine z6 21 [.agg (zd (.mk k s kids) q cap).toArray] (.c .p (.s .p (.s (.s .p (.b (.l (.s .p (.s .p (.s (.b (.c .p (.s (.s .p .p) .p))) .p)))))) .p))) Tryz.func9 ?_;obtain⟨R,hR⟩:=nm (nodesA (.mk k s kids));rw [<- hR];rw [nodesA] at hR;rw [depthT] at hd;obtain⟨L,hL⟩:=nm (w.heap.size);refine⟨Unit,fun _=>⟨[(1,At0 L)],[]⟩,fun _ X=>X.heap[L]?=some (.cells (zd (.mk k s kids) q cap).toArray 24 (0,0))/\Bw w X,⟨(),⟨.cons (by rw [hL];rfl) .nil,rfl⟩,by rw [hL];exact zA w _,zba _ _⟩,?_⟩;rintro _ X ⟨f,hb⟩;have hlen:kids.length<=140737488351232:=hK.inv.1;refine⟨_,zc (za f) (i:=2) (v := .slice q kids.length cap) rfl,Nat×Nat,fun y=>⟨[(3,i64 (y.2:Nat)),(7,.slice q kids.length cap),(8,i64 (kids.length:Nat)),(9,.int .i64 (y.1:Nat))],[]⟩,fun y X=>Bw w X/\y.1<=kids.length/\R=nodesAL y.2 (kids.drop y.1)/\y.2<=501000501,fun y=>kids.length-y.1,(0,1),(cvE rfl rfl),⟨hb,Ge _,hR,by decide⟩,?_⟩;clear hb hR f X;rintro⟨i,n⟩ X ⟨hb,hi,hR,hn⟩;dsimp only at hi hR hn ⊢;refine biE (fun hc=>?_) fun hc=>?_
 ·have hc:(i:Int)<(kids.length:Int):=dT hc;have hil:i<kids.length:=by omega
  rw [Jo hil,nodesAL] at hR;obtain⟨b,o,q2,c2,hq,hc2,hbl,hnl,hkk⟩:=KidsT.kid (l:=kids) (hK.kept hb) hil;subst hq;have hdk:=ziA (gM hil);obtain⟨u,hu⟩:=nm (kids[i]);have hum:u∈kids:=by rw [hu];exact gM hil
  rw [<- hu] at hR hc2 hkk hdk;refine⟨Nat,fun b5=>⟨[(3,i64 (n:Nat)),(5,At0 b5),(7,.slice (some ⟨b,o,none⟩) kids.length cap),(8,i64 (kids.length:Nat)),(9,.int .i64 (i:Nat))],[]⟩,fun b5 Y=>Y.heap[b5]?=some (.cells (zd u q2 c2).toArray 24 (0,0))/\KidsT jL Y q2 u.kids/\Bw w Y,?_,?_⟩
  ·exact⟨i,rfl,hil,_,rfl,hc2,hbl,zk (X:=X) (v := .agg (zd u q2 c2).toArray) k24 rfl rfl rfl fun Y hbY fY sY=>⟨X.heap.size,(cvE rfl rfl),fY,hkk.kept hbY,zst hb hbY⟩⟩
  clear hb hc2 hbl hkk X;rintro b5 X ⟨f5,hkk,hb⟩;refine biE (fun h=>?_) fun h=>?_
  ·have h:(500:Int)<(n:Int):=dT h;rw [Gx (by omega)] at hR;rw [hR];exact⟨rfl,hb⟩
  ·have h:¬ (500:Int)<(n:Int):=dF h;rw [Gw (by omega)] at hR;have hle:=nodesA_le u;refine⟨_,rfl,za f5,hlt f5,cmo (ih u hum q2 c2 X (by omega) hkk) ?_⟩;rintro e Y ⟨rfl,bY⟩;exact⟨((n+nodesA u:Nat):Int),(zi (by omega)).trans (by omega),nxI (by omega) ⟨(i+1,n+nodesA u),(cvE rfl rfl),⟨zst hb bY,hil,hR,by show n+nodesA u<=_;omega⟩,zdc (by omega)⟩⟩
 ·have hc:¬ (i:Int)<(kids.length:Int):=dF hc;rw [JA (by omega),nodesAL] at hR;rw [hR];exact⟨rfl,hb⟩
theorem zi7:∀ t,zt0 t
 | .mk k s kids=>ztd fun y hy=>zi7 y
theorem zqD:∀ (m:Nat) (t:Trm) (q:OA) (cap:Nat) (w:Wd),m<=1000->KidsT jL w q t.kids ->
  CB 8 #[.agg (zd t q cap).toArray,i64 (m:Nat)] w (.bool (zal m t))
 | m,.mk k s kids,q,cap,w,hm,hK=>by
  refine z6 31 [.agg (zd (.mk k s kids) q cap).toArray,i64 (m:Nat)] (.c .p (.c (.s .p .p) (.s (.s .p (.b (.l (.s .p (.s .p (.s (.b (.c .p (.s .p .p))) .p)))))) .p))) Tryz.func8 ?_;obtain⟨L,hL⟩:=nm (w.heap.size);have hlen:kids.length<=140737488351232:=hK.inv.1;refine⟨Unit,fun _=>⟨[(1,i64 (m:Nat)),(2,At0 L)],[]⟩,fun _ X=>X.heap[L]?=some (.cells (zd (.mk k s kids) q cap).toArray 24 (0,0))/\Bw w X,⟨(),⟨.cons rfl (.cons (by rw [hL];rfl) .nil),rfl⟩,by rw [hL];exact zA w _,zba _ _⟩,?_⟩;rintro _ X ⟨f,hb⟩;obtain⟨R,hR⟩:=nm (zal m (.mk k s kids));rw [<- hR];refine⟨Nat,fun _=>⟨[(1,i64 (m:Nat)),(2,At0 L)],[]⟩,fun m' X=>X.heap[L]?=some (.cells (zd (.mk k s kids) q cap).toArray 24 (0,0))/\Bw w X/\m=m'+1/\R=(kids.all (zal m')&&decide (nodesA (.mk k s kids)<=500)),?_,?_⟩
  ·refine biE (fun h=>?_) fun h=>?_
   ·have h:(m:Int)=0:=dT h;obtain rfl:m=0:=(by omega);rw [zal] at hR;rw [hR];exact brT ⟨rfl,hb⟩
   ·have h:¬ (m:Int)=0:=dF h;obtain⟨m',rfl⟩:∃ m',m=m'+1:=⟨m-1,by omega⟩;rw [zal] at hR;refine⟨_,zc (za f) (i:=2) (v := .slice q kids.length cap) rfl,biE (fun h3=>?_) fun h3=>?_⟩
    ·have h3:(3:Int)<(kids.length:Int):=dT h3;rw [Uj (by omega),Ul] at hR;rw [hR];exact⟨rfl,hb⟩
    ·have h3:¬ (3:Int)<(kids.length:Int):=dF h3;rw [Ut (p:=kids.length<=3) (by omega),Uz] at hR;exact⟨m',(cvE rfl rfl),f,hb,rfl,hR⟩
  clear f hb hR X;rintro m' X ⟨f,hb,rfl,hR⟩;refine⟨_,zc (za f) (i:=2) (v := .slice q kids.length cap) rfl,Nat,fun i=>⟨[(1,i64 (m'+1:Nat)),(2,At0 L),(16,.slice q kids.length cap),(17,i64 (kids.length:Nat)),(18,.int .i64 (i:Nat))],[]⟩,fun i X=>X.heap[L]?=some (.cells (zd (.mk k s kids) q cap).toArray 24 (0,0))/\Bw w X/\i<=kids.length/\∀ j (h:j<kids.length),j<i->zal m' kids[j]=true,fun i=>kids.length-i,0,(cvE rfl rfl),⟨f,hb,Ge _,fun j _ h=>Gy h (Nat.not_lt_zero _)⟩,?_⟩;clear f hb X;rintro i X ⟨f,hb,hi,hj⟩;dsimp only at hi hj ⊢;refine biE (fun hc=>?_) fun hc=>?_
  ·have hc:(i:Int)<(kids.length:Int):=dT hc;have hil:i<kids.length:=by omega
   obtain⟨b,o,q2,c2,hq,hc2,hbl,hnl,hkk⟩:=KidsT.kid (l:=kids) (hK.kept hb) hil;subst hq;obtain⟨u,hu⟩:=nm (kids[i]);have hum:u∈kids:=by rw [hu];exact gM hil
   rw [<- hu] at hc2 hkk;refine⟨Nat,fun b5=>⟨[(1,i64 (m'+1:Nat)),(2,At0 L),(6,At0 b5),(16,.slice (some ⟨b,o,none⟩) kids.length cap),(17,i64 (kids.length:Nat)),(18,.int .i64 (i:Nat))],[]⟩,fun b5 Y=>Y.heap[L]?=some (.cells (zd (.mk k s kids) (some ⟨b,o,none⟩) cap).toArray 24 (0,0))/\Y.heap[b5]?=some (.cells (zd u q2 c2).toArray 24 (0,0))/\KidsT jL Y q2 u.kids/\Bw w Y,?_,?_⟩
   ·exact⟨i,rfl,hil,_,rfl,hc2,hbl,zk (X:=X) (v := .agg (zd u q2 c2).toArray) k24 rfl rfl rfl fun Y hbY fY sY=>⟨X.heap.size,(cvE rfl rfl),zb hbY f,fY,hkk.kept hbY,zst hb hbY⟩⟩
   clear f hb hc2 hbl hkk X;rintro b5 X ⟨f,f5,hkk,hb⟩;refine⟨_,rfl,za f5,hlt f5,((m':Nat):Int),(zi (by omega)).trans (by omega),cmo (zqD m' u q2 c2 X (by omega) hkk) ?_⟩;rintro e Y ⟨rfl,bY⟩;refine biE (fun h=>?_) fun h=>?_
   ·have h:(!zal m' u)=true:=h;have:kids.all (zal m')=false:=KM.2 ⟨u,hum,by rw [zi6 h];decide⟩;rw [this,Ul] at hR;rw [hR];exact⟨rfl,zst hb bY⟩
   ·have h:(!zal m' u)=false:=h;refine nxI (by omega) ⟨i+1,(cvE rfl rfl),⟨zb bY f,zst hb bY,hil,fun j hj1 hj2=>?_⟩,zdc (by omega)⟩;by_cases e:j=i
    ·subst e;rw [<- hu];exact zi5 h
    ·exact hj j hj1 (by omega)
  ·have hc:¬ (i:Int)<(kids.length:Int):=dF hc;have hall:kids.all (zal m')=true:=Qk.2 fun y hy=>by
    obtain⟨j,hj1,rfl⟩:=List.mem_iff_getElem.1 hy;exact hj j hj1 (by omega)
   rw [hall,Uz] at hR;have hdep:depthT (.mk k s kids)<=1000000:=by
    rw [depthT];have:=zfw (l:=kids) (d:=m') fun t ht=>zcD m' t (Qk.1 hall t ht);omega
   refine⟨_,rfl,za f,hlt f,cmo (zi7 (.mk k s kids) q cap X hdep (hK.kept hb)) ?_⟩;rintro e Y ⟨rfl,bY⟩;refine⟨rb ?_,zst hb bY⟩;rw [hR];show decide (((nodesA (.mk k s kids):Nat):Int)<=500)=_;rw [QH];omega
end
end Go.Proofs.YtnadlhpkpnfmbaaGreatDoor
namespace Go.Proofs.YtnadlhpkpnfmbaaGreatDoor
open Go.Vc
def ze9:Bs:=[97,99,121,99,108,105,99,32,112,111,32,124,32,114,102,32,124,32,99,111,32,124,32,102,114,32,97,115,32,111,114,100,101,114]
abbrev nmT (s:Bs):Trm := .mk 1 s []
def znk:Bs:=[97,99,121,99,108,105,99,32,40,112,111,32,124,32,114,102,41,43,32,97,115,32,120]
end Go.Proofs.YtnadlhpkpnfmbaaGreatDoor
namespace Go.Sei
def zbU (ns:List Nat):Nat:=ns.foldl (· * ·) 1
theorem zgD (ns:List Nat) (n:Nat):zbU (ns++[n])=zbU ns*n:=by
 unfold zbU;rw [KT];rfl
def zlH (init:List UInt8) (Ts:List (List PathD)):List MixD:=(zbG (Ts.map List.length)).filterMap fun ds=>zkk init (zbV Ts ds)
theorem zgF:∀ (Ts:List (List PathD)) (ds:List Nat) (T:List PathD) (d:Nat),Ts.length=ds.length->zbV (Ts++[T]) (ds++[d])=zbV Ts ds++(match T[d]? with | some P=>[P] | none=>[])
 | [],[],T,d,_=>by
  show (match T[d]? with | some P=>[P] | none=>[])++[]=_;rw [QM];rfl
 | [],_::_,_,_,h=>by simp at h
 | _::_,[],_,_,h=>by simp at h
 | A::Ts,e::ds,T,d,h=>by
  show (match A[e]? with | some P=>[P] | none=>[])++zbV (Ts++[T]) (ds++[d])=((match A[e]? with | some P=>[P] | none=>[])++zbV Ts ds)++_;rw [zgF Ts ds T d (by simpa using h),KO]
theorem zlt (ns:List Nat) (n:Nat):qc (ns++[n])=qc ns*n:=by
 rw [zdt];show _*(n*1)=_;rw [Gd]
theorem zix:∀ (ns:List Nat) (a:Nat),ns.foldl (· * ·) a=a*qc ns
 | [],a=>(Gd a).symm
 | n::ns,a=>by
  show ns.foldl (· * ·) (a*n)=a*(n*qc ns);rw [zix ns,UI]
theorem znH:∀ ns:List Nat,qc ns.reverse=zbU ns:=fun ns=>by
 have h:∀ l:List Nat,qc l.reverse=qc l:=fun l=>by
  induction l with
  | nil=>rfl
  | cons n l ih =>
   rw [KW,zlt,ih];exact UU _ _
 rw [h];unfold zbU;rw [zix,Nat.one_mul]
end Go.Sei
namespace Go.Proofs.YtnadlhpkpnfmbaaGreatDoor
open Go.Vc Go.RowKit Go.Sei
theorem zr5 {b o:Nat} {w:Wd}:Calls PG 90 #[.pointer (some ⟨b,o,none⟩)] w fun e w'=>e = .returned (.func (.func 141) #[] #[At0 w.heap.size])/\w'.heap[w.heap.size]?=some (.cells #[.pointer (some ⟨b,o,none⟩)] 244 (0,0))/\w'.heap.size=w.heap.size+1/\Bw w w':=by
 refine zD 4 [.pointer (some ⟨b,o,none⟩)] Tryz.func90 ?_;exact⟨rfl,zA w _,wz _ _,(zba w _)⟩
def zsi (B:Nat) (F:Nat->Prop) (Y:Wd) (x:zfZ):Prop:=OwnS evE 158 B Y x.2.1 x.2.2 x.1.ev/\∀ a,x.2.1=some a->F a.block
theorem zfm (B:Nat):ziG 37 89 (zsi B):=by
 rintro F G Y Z x ⟨h1,h2⟩ hs hg;refine⟨h1.same fun a ha=>?_,fun a ha=>hg _ (h2 a ha)⟩;obtain⟨_,_,cur,hc⟩:=zx h1 ha;exact hs _ cur _ (h2 a ha) hc (by decide) (by decide)
theorem zk5 {B B1 bx c0:Nat} {p0:OA} {l0:List zfZ} {xs:List ExD} {w W0:Wd} {Rd:Nat->Prop} {pm:Value} (ho:OwnS exE 37 B w p0 c0 l0) (hn:∀ x∈l0,OwnS evE 158 B w x.2.1 x.2.2 x.1.ev) (hB:B<=w.heap.size)
  (hI:zqB PG 141 [At0 bx] xs W0 Rd (StX B1) GvX) (hW0:W0.heap.size<=w.heap.size) (hRd:∀ k,Rd k->k<W0.heap.size/\w.heap[k]?=W0.heap[k]?) (hRB:∀ k,Rd k->k<B\/k=bx) (fb:w.heap[bx]?=some (.cells #[pm] 244 (0,0))) (hB1:B<=B1) (hlen:l0.length+xs.length<=30000) :
  Calls PG 89 #[.slice p0 l0.length c0,.func (.func 141) #[] #[At0 bx]] w fun e w'=>(∃ (new:List zfZ) (p:OA) (c:Nat),e = .returned (.slice p (l0++new).length c)/\new.map (·.1)=xs/\OwnS exE 37 B w' p c (l0++new)/\∀ x∈l0++new,OwnS evE 158 B w' x.2.1 x.2.2 x.1.ev)/\Below B w w':=by
 refine z6 13 [.slice p0 l0.length c0,.func (.func 141) #[] #[At0 bx]] (.c .p .p) Tryz.func89 ?_;obtain⟨L,hL⟩:=nm (w.heap.size);refine⟨Unit,fun _=>⟨[(1,.func (.func 141) #[] #[At0 bx]),(2,At0 L)],[]⟩,fun _ X=>X.heap[L]?=some (.cells [.slice p0 l0.length c0].toArray 89 (0,0))/\X.heap.size=L+1/\Bw w X,?_,?_⟩
 ·exact⟨(),⟨.cons rfl (.cons (by rw [hL];rfl) .nil),rfl⟩,by rw [hL];exact zA w _,by rw [hL];exact wz _ _,(zba w _)⟩
 rintro _ W ⟨fL,sW,hbW⟩;have hbxw:=hlt fb;obtain⟨F0,hF0⟩:∃ F0:Nat->Prop,F0=fun k=>k=L\/(∃ a,p0=some a/\k=a.block)\/∃ x∈l0,∃ a,x.2.1=some a/\k=a.block:=⟨_,rfl⟩;have hF0B:∀ k,F0 k->B<=k/\k<W.heap.size/\(k≠L->k≠bx):=by
  intro k hk;rw [hF0] at hk;rcases hk with rfl | ⟨a,ha,rfl⟩ | ⟨x,hx,a,ha,rfl⟩
  ·exact⟨by omega,by omega,fun h=>(h rfl).elim⟩
  ·obtain⟨h1,h2,cur,h3⟩:=zx ho ha;exact⟨h1,by omega,fun _ e=>by rw [e,fb] at h3;simp at h3⟩
  ·obtain⟨h1,h2,cur,h3⟩:=zx (hn x hx) ha;exact⟨h1,by omega,fun _ e=>by rw [e,fb] at h3;simp at h3⟩
 have hG0:Gath exE 37 89 B W.heap.size L W (zsi B) l0 F0 W:=by
  refine⟨Gc _,by rw [hF0];exact .inl rfl,fun k hk=>(hF0B k hk).2.1,⟨p0,c0,fL,ho.below hbW,fun a ha=>by rw [hF0];exact .inr (.inl ⟨a,ha,rfl⟩)⟩,fun x hx=>⟨(hn x hx).below hbW,fun a ha=>by rw [hF0];exact .inr (.inr ⟨x,hx,a,ha,rfl⟩)⟩,Gh _ _⟩
 refine zs2 (zbi _) rfl (lb := #[At0 bx]) rfl rfl hI (fun pre vs W k ⟨x,q,c,h1,h2,h3⟩ ⟨x',a,c',h4,h5⟩=>?_) (by have:=hbW.size;omega) (fun k hk=>⟨(hRd k hk).1,?_⟩) (fun pre vs W ⟨x,q,c,_,h,_⟩=>by rw [h];rfl) (by decide)
  F0 (fun pre F Y=>∃ xs',(∃ new,xs'=l0++new/\new.map (·.1)=pre/\new.length<=xs.length)/\Gath exE 37 89 B W.heap.size L W (zsi B) xs' F Y) (fun k hk=>?_) (Gath.iter (zfm B) (by omega)) ⟨l0,⟨[],by simp,rfl,Ge _⟩,hG0⟩ ?_ ?_
 ·rw [h2] at h4;have h6:exC x q c=exC x' (some a) c':=by
   have h7:=Value.agg.inj (Jv h4);simpa using h7
  have h8:Value.slice q x.ev.length c=Value.slice (some a) x'.ev.length c':=Jv h6;have h9:q=some a:=by injection h8
  obtain⟨_,_,cur,hc⟩:=zx h3 h9;rw [h5];exact⟨_,_,_,hc⟩
 ·rw [<- (hRd k hk).2];exact hbW.block k (by have:=(hRd k hk).1;omega)
 ·intro h;obtain⟨h1,h2,h3⟩:=hF0B k h;have h4:=(hRd k hk).1;rcases hRB k hk with h5 | h5
  ·omega
  ·exact h3 (by omega) h5
 ·rintro yl pre x vs F Y hyl hpre ⟨xs',⟨new,rfl,hnew',hnl⟩,hG⟩ ⟨x',q,c,hlast,rfl,oq⟩ hgv hfy ⟨lo,hlo⟩;have hxx:x=x':=by simpa using hlast
  subst hxx;have hYs:=hG.size;refine zk (X:=Y) (v := .agg (exC x q c).toArray) k37 (zH _ _ _) zbu (zcE _ _ _) fun Z hbZ fZ sZ=>?_;have fZ:ExH Z Y.heap.size x q c:=fZ;obtain⟨F1,hF1⟩:∃ F1:Nat->Prop,F1=fun k=>F k\/GvX [.agg (exC x q c).toArray] k:=⟨_,rfl⟩;rw [<- hF1];have hq1:∀ a,q=some a->F1 a.block:=fun a ha=>by
   rw [hF1];exact .inr ⟨x,a,c,by rw [ha],rfl⟩
  have hgq:∀ k,GvX [.agg (exC x q c).toArray] k->∃ a,q=some a/\k=a.block:=by
   rintro k ⟨x',a,c',h4,h5⟩;have h6:exC x q c=exC x' (some a) c':=by
    have h7:=Value.agg.inj (Jv h4);simpa using h7
   have h8:Value.slice q x.ev.length c=Value.slice (some a) x'.ev.length c':=Jv h6;have h9:q=some a:=by injection h8
   exact⟨a,h9,h5⟩
  have hlt1:∀ k,F1 k->k<Y.heap.size:=fun k hk=>by
   rw [hF1] at hk;rcases hk with hk | hk
   ·exact hG.lt k hk
   ·obtain⟨a,ha,rfl⟩:=hgq k hk;exact (zx oq ha).2.1
  have hFF:∀ k,F k->F1 k:=fun k hk=>by rw [hF1];exact .inl hk
  have hG1:Gath exE 37 89 B W.heap.size L W (zsi B) (l0++new) F1 Z:=by
   obtain⟨p,c',h1,h2,h3⟩:=hG.row;have sZ:=hbZ.size;exact⟨by omega,hFF _ hG.inL,fun k hk=>by have:=hlt1 k hk;omega,⟨p,c',zb hbZ h1,h2.below hbZ,fun a ha=>hFF _ (h3 a ha)⟩,fun y hy=>⟨(hG.nest y hy).1.below hbZ,fun a ha=>hFF _ ((hG.nest y hy).2 a ha)⟩,hG.old.trans (hbZ.mono (by omega))⟩
  refine⟨rfl,F1,KeepsG.below hbZ fun k hk => .inl hk,⟨_,⟨new,rfl,hnew',hnl⟩,hG1⟩,?_⟩;rintro O Y2 hY2 ⟨xs2,⟨new2,rfl,hnew2,hnl2⟩,hG2⟩;clear hG1 hnew' hnl hG;have hYl:=hlt hlo;have fY:ExH Y2 Y.heap.size x q c:=by rw [hY2];exact (zj (by omega)).trans fZ
  have oq2:OwnS evE 158 B1 Y2 q c x.ev:=by
   rw [hY2];refine (oq.below hbZ).same fun a ha=>zj fun e=>?_;obtain⟨_,_,cur,hc⟩:=zx oq ha;rw [e,hlo] at hc
   cases hc
  obtain⟨p,c',h4,h5,h6⟩:=hG2.row;refine⟨_,zc (za h4) (i:=0) rfl,exC x q c,zH _ _ _,za fY,hlt fY,?_⟩;obtain⟨nx,hnx⟩:∃ nx:zfZ,nx=(x,q,c):=⟨_,rfl⟩;have hen:exC x q c=exE.enc nx:=by rw [hnx];rfl
  have hpl:pre.length<xs.length:=by
   obtain⟨t,ht⟩:=hpre;rw [<- ht];simp only [lap,Qt];omega
  have hn2:new2.length=pre.length:=by rw [<- hnew2,QQ]
  refine⟨⟨by decide,by decide,zbu⟩,exE.enc nx,by rw [<- hen];exact zbc (zH _ _ _) zbu,?_⟩;have hw2:W.heap.size<=Y2.heap.size:=hG2.size;obtain⟨v,Y5,hrun,S,hrun2,F',hG',hK',hFF'⟩:=hG2.stepX (P:=PG) (ty:=89) (cap1:=1) (zfm B) (by decide) Tryz.underlying89 k37 rfl rfl (by show _=333;exact zbu) k89 rfl (by omega) (by omega) (Gh _ _) nx (by rw [lap];omega) (by rw [lap];show (_+1)*2416<=_;omega)
   (fun G Z _ _ h3 h4=>zfm B F1 G Y2 Z nx ⟨by rw [hnx];exact oq2.lower hB1,fun a ha=>by rw [hnx] at ha;exact hq1 a ha⟩ h3 h4) p c' h4
  unfold zeC zav;exact SatR.mk hrun (SatR.mk hrun2 ⟨F',⟨_,⟨new2++[nx],by rw [KO],by rw [QT,hnew2,hnx];rfl,by rw [lap];show _+1<=_;omega⟩,hG'⟩,hK'⟩)
 ·rintro D F Y hD hfD ⟨xs',⟨new,rfl,hnew',hnl⟩,hG⟩ hdef;obtain⟨p,c',h4,h5,h6⟩:=hG.row;refine⟨_,zc (za h4) (i:=0) rfl,_,rfl,hdef,?_⟩;have kp:∀ a:Addr,F a.block->(Y.putObj D (.deferred none)).heap[a.block]?=Y.heap[a.block]?:=fun a h2=>zj fun e=>by rw [<- e] at hfD;exact hfD h2
  exact⟨⟨new,p,c',rfl,hnew',h5.same fun a ha=>kp a (h6 a ha),fun x hx=>(hG.nest x hx).1.same fun a ha=>kp a ((hG.nest x hx).2 a ha)⟩,qX ((hbW.mono hB).trans hG.old) (by omega) _⟩
structure MixX where
 m:MixD
 q:OA
 c:Nat
 p1:OA
 c1:Nat
 p2:OA
 c2:Nat
 p3:OA
 c3:Nat
 xs:List zay
 ys:List zay
def znW (x:MixX):List Value:=exC x.m.base x.q x.c++[.slice x.p1 x.m.rs.length x.c1,.slice x.p2 x.xs.length x.c2,.slice x.p3 x.ys.length x.c3]
theorem zpr (x:MixX):(znW x).length=336:=by
 unfold znW;rw [lap,zH];rfl
theorem zkl (x:MixX):(znW x).all Value.oneCell'=true:=by
 unfold znW;rw [QL,zcE];rfl
def zjc:Enc MixX:=⟨znW,336,zpr,by decide,fun a u hu=>Qk.1 (zkl a) u hu⟩
structure NInM (B:Nat) (F:Nat->Prop) (Y:Wd) (x:MixX):Prop where
 e2:x.xs.map (·.1)=x.m.rs.map (·.2)
 e3:x.ys.map (·.1)=x.m.wr
 ev:RowIn evE 158 B F Y x.q x.c x.m.base.ev
 r1:RowIn zC 3 B F Y x.p1 x.c1 (x.m.rs.map (·.1))
 r2:RowIn qO 128 B F Y x.p2 x.c2 x.xs
 n2:∀ y∈x.xs,RowIn zC 3 B F Y y.2.1 y.2.2 y.1
 r3:RowIn qO 128 B F Y x.p3 x.c3 x.ys
 n3:∀ y∈x.ys,RowIn zC 3 B F Y y.2.1 y.2.2 y.1
theorem NInM.same {B:Nat} {F G:Nat->Prop} {Y Z:Wd} {x:MixX} (h:NInM B F Y x) (k:∀ {α:Type} {E:Enc α} {T c:Nat} {q:OA} {l:List α},T≠172->T≠166->T≠4->RowIn E T B F Y q c l->RowIn E T B G Z q c l):NInM B G Z x :=
 ⟨h.e2,h.e3,k (by decide) (by decide) (by decide) h.ev,k (by decide) (by decide) (by decide) h.r1,k (by decide) (by decide) (by decide) h.r2,fun y hy=>k (by decide) (by decide) (by decide) (h.n2 y hy),k (by decide) (by decide) (by decide) h.r3,fun y hy=>k (by decide) (by decide) (by decide) (h.n3 y hy)⟩
theorem NInM.lower {B B':Nat} {F:Nat->Prop} {Y:Wd} {x:MixX} (h:NInM B F Y x) (hB:B'<=B):NInM B' (fun k=>B'<=k) Y x:=by
 have k:∀ {α:Type} {E:Enc α} {T c:Nat} {q:OA} {l:List α},RowIn E T B F Y q c l->RowIn E T B' (fun k=>B'<=k) Y q c l:=fun {α E T c q l} hr=>⟨hr.own.lower hB,fun a ha=>(zx (hr.own.lower hB) ha).1⟩;exact⟨h.e2,h.e3,k h.ev,k h.r1,k h.r2,fun y hy=>k (h.n2 y hy),k h.r3,fun y hy=>k (h.n3 y hy)⟩
theorem zij (B:Nat):ziG 172 166 (NInM B):=by
 rintro F G Y Z x h hs hg;refine h.same fun {α E T c q l} t1 t2 _ hr=>⟨hr.own.same fun a ha=>?_,fun a ha=>hg _ (hr.inF a ha)⟩;obtain⟨_,_,cur,hc⟩:=zx hr.own ha;exact hs _ cur _ (hr.inF a ha) hc t1 t2
abbrev TpR:=List zdp×OA×Nat
def tpE:Enc TpR where
 sz:=1
 enc x:=[.slice x.2.1 x.1.length x.2.2]
 len x:=rfl
 one x v hv:=by
  simp at hv;subst hv;rfl
 pos:=by decide
structure MxS (B:Nat) (Z:Wd) (L bP:Nat) (ss:List Nat) (ps:OA) (cs:Nat) (ts:List TpR) (pT:OA) (cT:Nat):Prop where
 f0:Z.heap[L]?=some (.cells #[At0 bP] 169 (0,0))
 f1:Z.heap[L+1]?=some (.cells #[.slice none 0 0] 166 (0,0))
 f2:Z.heap[L+2]?=some (.cells #[.bool false] 4 (0,0))
 f3:Z.heap[L+3]?=some (.cells #[.slice pT ts.length cT] 232 (0,0))
 own:OwnS zC 3 B Z ps cs ss
 rk:OwnS tpE 233 B Z pT cT ts
 n1:∀ z∈ts,OwnS jv 241 B Z z.2.1 z.2.2 z.1
 n2:∀ z∈ts,∀ x∈z.1,PthO B Z x
theorem PthO.same {B:Nat} {Y Z:Wd} {x:zdp} (h:PthO B Y x) (k:∀ {α:Type} {E:Enc α} {T c:Nat} {q:OA} {l:List α},T=158\/T=326->OwnS E T B Y q c l->OwnS E T B Z q c l):PthO B Z x :=
 ⟨k (.inl rfl) h.1,k (.inr rfl) h.2.1,k (.inr rfl) h.2.2.1,k (.inr rfl) h.2.2.2⟩
theorem MxS.below {B:Nat} {Z Y:Wd} {L bP:Nat} {ss:List Nat} {ps:OA} {cs:Nat} {ts:List TpR} {pT:OA} {cT:Nat} (h:MxS B Z L bP ss ps cs ts pT cT) (hb:Bw Z Y):MxS B Y L bP ss ps cs ts pT cT :=
 ⟨zb hb h.f0,zb hb h.f1,zb hb h.f2,zb hb h.f3,h.own.below hb,h.rk.below hb,fun z hz=>(h.n1 z hz).below hb,fun z hz x hx=>(h.n2 z hz x hx).same fun {α E T c q l} _ ho=>ho.below hb⟩
theorem MxS.size {B:Nat} {Z Y:Wd} {L bP n:Nat} {ss:List Nat} {ps ps':OA} {cs cs':Nat} {ts:List TpR} {pT:OA} {cT:Nat} (h:MxS B Z L bP ss ps cs ts pT cT) (ho:OwnS zC 3 B Y ps' cs' (ss++[n])) (g:Z.grownBy Y (ps.map Addr.block)):MxS B Y L bP (ss++[n]) ps' cs' ts pT cT :=
 ⟨qg h.f0 h.own (by decide) g,qg h.f1 h.own (by decide) g,qg h.f2 h.own (by decide) g,qg h.f3 h.own (by decide) g,ho,j8 h.rk h.own (by decide) g,fun z hz=>j8 (h.n1 z hz) h.own (by decide) g,fun z hz x hx=>(h.n2 z hz x hx).same fun {α E T c q l} ht hoo=>j8 hoo h.own (by rcases ht with rfl | rfl <;> decide) g⟩
theorem zvX {B c:Nat} {V1:Wd} {p:OA} {l:List TpR} {y:TpR} {a:Addr} (ho:OwnS tpE 233 B V1 p c l) (ha:zo V1 a ([y].flatMap tpE.enc)) (hB:B<=V1.heap.size) (hl:l.length<=100000) {K:Value->Wd->Prop}
  (h:∀ p' c' w',OwnS tpE 233 B w' p' c' (l++[y])->V1.grownBy w' (p.map Addr.block)->(∀ a,p'=some a->p=some a\/a.block=V1.heap.size)->K (.slice p' (l++[y]).length c') w') :
  SatR ((Builtin.append_ #[232,232] 232 #[.slice p l.length c,.slice (some a) 1 1]).run PG V1) K :=
 ji (E:=tpE) (T:=233) (B:=B) (l:=l) (news:=[y]) (cap:=c) (m:=1) Tryz.underlying232 zrr rfl rfl rfl ho rfl ha hB (by omega) (by show (l.length+1)*24<=_;omega) fun p' c' w' a1 a2 _ a4=>h p' c' w' a1 (by rw [zaH] at a2;exact a2) a4
theorem zvZ {B c:Nat} {V1:Wd} {p:OA} {l:List zdp} {y:zdp} {a:Addr} (ho:OwnS jv 241 B V1 p c l) (ha:zo V1 a ([y].flatMap jv.enc)) (hB:B<=V1.heap.size) (hl:l.length<=100000) {K:Value->Wd->Prop}
  (h:∀ p' c' w',OwnS jv 241 B w' p' c' (l++[y])->V1.grownBy w' (p.map Addr.block)->(∀ a,p'=some a->p=some a\/a.block=V1.heap.size)->K (.slice p' (l++[y]).length c') w') :
  SatR ((Builtin.append_ #[233,233] 233 #[.slice p l.length c,.slice (some a) 1 1]).run PG V1) K :=
 ji (E:=jv) (T:=241) (B:=B) (l:=l) (news:=[y]) (cap:=c) (m:=1) Tryz.underlying233 znZ rfl rfl rfl ho rfl ha hB (by omega) (by show (l.length+1)*104<=_;omega) fun p' c' w' a1 a2 _ a4=>h p' c' w' a1 (by rw [zaH] at a2;exact a2) a4
structure ThrQ (V:List UInt8) (l:List InsD):Prop where
 l12:l.length<=12
 ex:∀ x∈l,zdI x
 ok:jy l 6=true
 m:(zaf l (ded V)).length<=4096
abbrev zL (V:List UInt8) (l:List InsD):List PathD:=(zaf l (ded V)).map zck
end Go.Proofs.YtnadlhpkpnfmbaaGreatDoor
