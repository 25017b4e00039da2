/- Contracts of functions, and plain facts, for the law that the last text of this claim proves. -/
import Derived.Test.YtnadlhpkpnfmbaaGreatDoorC5
import Derived.Test.YtnadlhpkpnfmbaaGreatDoorC2
import Derived.Test.YtnadlhpkpnfmbaaGreatDoorC4
import Derived.Test.YtnadlhpkpnfmbaaGreatDoorC1
import Derived.Lib.AppendStr
set_option linter.unusedSimpArgs false
set_option linter.unusedVariables false
namespace Go.Proofs.YtnadlhpkpnfmbaaGreatDoor
open Go.Vc Go.RowKit Go.Sei
section
variable {g l c:Nat} {s:Bs} {st:PS} {w w2 w3 X:Wd}
theorem zig {used:Bs->Bool} {nq:Bs} {st2:PS} (h:jG (zD s) used st=(some nq,st2)) (hp:st.tok.at_+st.tok.text.length<=s.length):nq.length<=s.length:=by
 unfold jG at h
 split at h
 ·cases h
 ·split at h
  ·cases h
  ·rw [<- Ui (Gk h).1];omega
def zv3 (g l c:Nat) (s:Bs) (w:Wd) (R:Option LineD×PS) (ok:Bool) (k:Nat) (nq:Bs) (t:Trm) (q:OA) (cap:Nat) (st':PS) (Y:Wd):Prop :=
 ParB g l c s st' Y/\LinB w g l c k nq t q cap Y/\(ok=true->R=znX ⟨k,nq,t⟩ st'/\k<=3/\nq.length<=8192/\t.name.length<=8192/\KidsT (fun b=>w.heap.size+2<b) Y q t.kids)/\(ok=false->R=(none,st'))
theorem zrp (many:Nat) (h:ParB g l c s st w):Calls PG 67 #[At0 g,i64 (many:Nat)] w (zqx g l c s w (zbS (zD s) 40000 many st)):=by
 refine zU 112 [At0 g,i64 (many:Nat)] (.s .p (.c .p (.s .p (.s .p (.s .p (.s .p (.s .p (.c .p (.c .p .p))))))))) Tryz.func67 ?_;obtain⟨R,hR⟩:=nm (zbS (zD s) 40000 many st);rw [<- hR];unfold zbS at hR;have hgw:=h.lt;have hlen:=h.len;have hpos:=h.pos;have og:=h.ord;refine⟨Unit,fun _=>⟨[(1,i64 (many:Nat)),(2,At0 w.heap.size),(4,At0 (w.heap.size+1)),(6,At0 (w.heap.size+2))],[]⟩,fun _ Y=>ParB g l c s st Y/\LinB w g l c 0 [] zT none 0 Y,?_,?_⟩
 ·obtain⟨W1,e1⟩:=nm (w.alloc (.cells #[At0 g] 132));have n1:W1.heap.size=w.heap.size+1:=by rw [e1];exact wz _ _
  have f1:W1.heap[w.heap.size]?=some (.cells #[At0 g] 132 (0,0)):=by rw [e1];exact zt w _
  have b1:Bw w W1:=by rw [e1];exact zba _ _
  obtain⟨W2,e2⟩:=nm (W1.alloc (.cells (zA 0 [] zT none 0).toArray 49));have n2:W2.heap.size=w.heap.size+2:=by rw [e2,wz,n1]
  have f2:W2.heap[w.heap.size+1]?=some (.cells (zA 0 [] zT none 0).toArray 49 (0,0)):=by rw [e2,<- n1];exact zt W1 _
  have b2:Bw W1 W2:=by rw [e2];exact zba _ _
  obtain⟨W3,e3⟩:=nm (W2.alloc (.cells (zA 0 [] zT none 0).toArray 49));have f3:W3.heap[w.heap.size+2]?=some (.cells (zA 0 [] zT none 0).toArray 49 (0,0)):=by rw [e3,<- n2];exact zt W2 _
  have b3:Bw W2 W3:=by rw [e3];exact zba _ _
  have b13:=zst b1 (zst b2 b3);refine⟨(),⟨.cons rfl (.cons ?_ (.cons ?_ (.cons ?_ .nil))),rfl⟩,?_⟩
  ·rfl
  ·show some (At0 (w.alloc (.cells #[At0 g] 132)).heap.size)=_;rw [wz]
  ·show some (At0 ((w.alloc (.cells #[At0 g] 132)).alloc (.cells (zA 0 [] zT none 0).toArray 49)).heap.size)=_;rw [wz,wz]
  ·show _/\_;have key:ParB g l c s st W3/\LinB w g l c 0 [] zT none 0 W3:=⟨h.below b13,zb b3 (zb b2 f1),zb b3 f2,f3,.of_below b13⟩;rw [e3,e2,e1] at key;exact key
 rintro _ Y ⟨hY,lY⟩;dsimp only;refine⟨_,zc (za lY.p) (i:=0) rfl,_,zc (za hY.f) (i:=2) rfl,cmo (zkh st.tok.text Y hY.glob) ?_⟩;rintro e _ ⟨rfl,rfl⟩;have bD:=(Gm Y.heap.size Y).drew;have hD:=hY.below bD;have lD:=lY.below bD;have sz0:w.heap.size+2<Y.heap.size:=hlt lY.x;have bad:∀ n:Int,R=(none,zaw n st)->∀ {Z:Wd},ParB g l c s (zaw n st) Z->Y.drew.grownBy Z (some g)->SatR ((storeVar 49 ⟨w.heap.size+1,0,none⟩ (.agg (zA 0 [] zT none 0).toArray)).run PG Z) fun _ w'=>∃ us:List Value,us.length=5/\zq w' ⟨w.heap.size+1,0,none⟩ us/\zqx g l c s w R (.returned (jT [.agg us.toArray,.bool false])) w':=by
  intro n hR Z hZ gZ;exact (lD.grown (.inl rfl) hgw gZ).fin hZ hgw (by rw [hR];rfl) (by rw [hR]) (fun x hx=>by rw [hR] at hx;cases hx)
 refine⟨_,zc (za lY.p) (i:=0) rfl,_,zc (za hY.f) (i:=1) rfl,?_⟩;have r4:(st.tok.kind≠3\/zbs st.tok.text ≥ 4)->R=(none,zaw 110 st):=fun hc=>by rw [hR,GC hc]
 refine biE (fun h1=>?_) fun h1=>?_
 ·have h1:(!decide ((st.tok.kind:Int)=((3:Nat):Int)))=true:=h1;rw [zP] at h1;have hR:=r4 (.inl (by simpa using h1));refine brT (DrawE.treeQ [2,3] (.op 1 (.alt (.op 2 (.op 0 (.op 3 (.op 4 .nil)))) (.op 0 (.op 2 (.op 3 (.op 4 .nil)))))) (by kernel_rfl) ⟨_,zc (za lD.p) (i:=0) rfl,Gs ?_ ?_⟩)
  ·refine cmo (jC hD 110) ?_;rintro e Z ⟨rfl,hZ,gZ⟩;have lZ:=lD.grown (.inl rfl) hgw gZ;exact⟨_,rfl,za lZ.x,hlt lZ.x,bad 110 hR hZ gZ⟩
  ·refine⟨_,rfl,za lD.x,hlt lD.x,cmo (jC hD 110) ?_⟩;rintro e Z ⟨rfl,hZ,gZ⟩;exact bad 110 hR hZ gZ
 have h1:(!decide ((st.tok.kind:Int)=((3:Nat):Int)))=false:=h1;rw [zP] at h1;have h1:st.tok.kind=3:=by simpa using h1
 have hl4:=zpv st.tok.text;refine biE (fun h2=>?_) fun h2=>?_
 ·have h2:zds st.tok.text<0:=dT h2;have hR:=r4 (.inr (by unfold zds at h2;split at h2 <;> omega));refine DrawE.treeQ [2,3] (.op 1 (.alt (.op 2 (.op 0 (.op 3 (.op 4 .nil)))) (.op 0 (.op 2 (.op 3 (.op 4 .nil)))))) (by kernel_rfl) ?_;refine⟨_,zc (za lD.p) (i:=0) rfl,?_⟩;refine Gs ?_ ?_
  ·refine cmo (jC hD 110) ?_;rintro e Z ⟨rfl,hZ,gZ⟩;have lZ:=lD.grown (.inl rfl) hgw gZ;exact⟨_,rfl,za lZ.x,hlt lZ.x,bad 110 hR hZ gZ⟩
  ·refine⟨_,rfl,za lD.x,hlt lD.x,cmo (jC hD 110) ?_⟩;rintro e Z ⟨rfl,hZ,gZ⟩;exact bad 110 hR hZ gZ
 have h2:¬ zds st.tok.text<0:=dF h2;have hk4:zbs st.tok.text<4:=by unfold zds at h2;split at h2 <;> omega
 have hz:zds st.tok.text=((zbs st.tok.text:Nat):Int):=by unfold zds;rw [GC hk4]
 rw [GB (by rintro (h | h);exact h h1;omega)] at hR;rw [hz];refine biE (fun h3=>?_) fun h3=>?_
 ·have h3:(40:Int)<=(many:Int):=dT h3;rw [GC (by omega)] at hR;refine DrawE.treeQ [2,3] (.op 1 (.alt (.op 2 (.op 0 (.op 3 (.op 4 .nil)))) (.op 0 (.op 2 (.op 3 (.op 4 .nil)))))) (by kernel_rfl) ⟨_,zc (za lD.p) (i:=0) rfl,Gs ?_ ?_⟩
  ·refine cmo (jC hD 5) ?_;rintro e Z ⟨rfl,hZ,gZ⟩;have lZ:=lD.grown (.inl rfl) hgw gZ;exact⟨_,rfl,za lZ.x,hlt lZ.x,bad 5 hR hZ gZ⟩
  ·refine⟨_,rfl,za lD.x,hlt lD.x,cmo (jC hD 5) ?_⟩;rintro e Z ⟨rfl,hZ,gZ⟩;exact bad 5 hR hZ gZ
 have h3:¬ (40:Int)<=(many:Int):=dF h3;rw [GB (by omega)] at hR;clear bad r4 hD lD bD;obtain⟨st1,hs1⟩:=nm (nx s st);obtain⟨k,hkk⟩:=nm (zbs st.tok.text);rw [show zav (zD s) st=st1 from hs1.symm,<- hkk,show st.lets=st1.lets by rw [hs1];rfl] at hR;rw [<- hkk] at hk4 ⊢;refine⟨_,zc (za lY.p) (i:=0) rfl,cmo (zbw hY) ?_⟩;rw [show nx s st=st1 from hs1.symm];rintro e Z ⟨rfl,hZ,gZ⟩;have lZ:=lY.grown (.inl rfl) hgw gZ;refine⟨(k:Int),zjp (by omega),lZ.store hZ hgw (k':=k) (nq':=[]) (t':=zT) (q':=none) (cap':=0) (o:=0) (v:=u8n k) k5 rfl (by show 0+1<=5;decide) rfl rfl fun V hV lV _ _=>⟨Unit,fun _=>⟨[(2,At0 w.heap.size),(4,At0 (w.heap.size+1)),(6,At0 (w.heap.size+2))],[]⟩,fun _ Y=>ParB g l c s st1 Y/\LinB w g l c k [] zT none 0 Y,⟨(),(cvE rfl rfl),hV,lV⟩,?_⟩⟩;clear hV lV hZ lZ gZ hY lY sz0 h2 hz h1 hpos h;rintro _ Y ⟨hY,lY⟩;dsimp only;refine⟨Bool×Nat×Bs×Trm×OA×Nat×PS,fun y=>⟨[(2,At0 w.heap.size),(4,At0 (w.heap.size+1)),(6,At0 (w.heap.size+2)),(8,.bool y.1)],[]⟩,fun y Y=>zv3 g l c s w R y.1 y.2.1 y.2.2.1 y.2.2.2.1 y.2.2.2.2.1 y.2.2.2.2.2.1 y.2.2.2.2.2.2 Y,?_,?_⟩
 ·have hsz:w.heap.size+2<Y.heap.size:=hlt lY.x;have hpos:=hY.pos;refine⟨_,zc (za lY.x) (i:=0) rfl,biE (fun h4=>?_) fun h4=>?_⟩
  ·
   have h4:(k:Int)=0:=dT h4;obtain rfl:k=0:=by omega
   rw [GC rfl] at hR;refine⟨_,zc (za lY.p) (i:=0) rfl,cmo (zlv hY lY.p) ?_⟩;rintro e Z ⟨rfl,hZ,gZ⟩;rcases hnm:jG (zD s) (fun t=>j7 t||st1.lets t) st1 with ⟨on,st2⟩;rw [hnm] at hR hZ;dsimp only at hZ hR ⊢;have lZ:=lY.grown (.inl rfl) hgw gZ;refine lZ.store hZ hgw (k':=0) (nq':=on.getD []) (t':=zT) (q':=none) (cap':=0) (o:=1) (v:=zx (on.getD [])) k9 rfl (by show 1+1<=5;decide) rfl rfl fun V hV lV _ sV=>?_
   cases on with
   | none =>
    exact brF (brF ⟨(false,0,[],zT,none,0,st2),(cvE rfl rfl),hV,lV,fun h=>GD h Kv,fun _=>hR⟩)
   | some nq =>
    have hnl:=zig hnm hpos;dsimp only at hR;refine brT ⟨_,zc (za lV.p) (i:=0) rfl,cmo (zcA hV 6 [61]) ?_⟩;rintro e U ⟨rfl,hU,gU⟩;rcases hex:qc (zD s) 6 [61] st2 with ⟨oe,st3⟩;rw [hex] at hR hU;dsimp only at hU hR ⊢;have lU:=lV.grown (.inl rfl) hgw gU
    cases oe with
    | false =>
     exact brF ⟨(false,0,nq,zT,none,0,st3),(cvE rfl rfl),hU,lU,fun h=>GD h Kv,fun _=>hR⟩
    | true =>
     dsimp only at hR;refine brT ?_;have su:w.heap.size+2<U.heap.size:=hlt lU.x;refine⟨_,zc (za lU.p) (i:=0) rfl,cmo (zjy 40000 1 st3 U (by decide) hU (by have:=hU.len;omega)) ?_⟩;rintro e T ⟨t,q,cap,rfl,hk,hT,gT⟩;rcases htm:termP (zD s) 40000 1 st3 with ⟨ot,st4⟩;rw [htm] at hk hT hR;dsimp only at hk hT hR ⊢;have lT:=lU.grown (.inl rfl) hgw gT;refine lT.store hT hgw (k':=0) (nq':=nq) (t':=t) (q':=q) (cap':=cap) (o:=2) (v := .agg (ze t q cap).toArray) k24 rfl (by show 2+3<=5;decide) rfl rfl fun P hP lP oP sP=>DrawE.ord [6] [0,1,2,3,4,5,6] (by kernel_rfl) ?_;have bE:=(Gm P.heap.size P).drew;have hE:=hP.below bE;have lE:=lP.below bE;refine⟨_,zc (za lE.p) (i:=0) rfl,_,zc (za hE.f) (i:=4) rfl,_,zc (za lE.x) (i:=1) rfl,hE.setL nq fun N hN gN=>?_⟩;have lN:=lE.grown (.inr (.inl rfl)) (by omega) gN;refine⟨(ot.isSome,0,nq,t,q,cap,{ st4 with lets:=zdb st4.lets nq }),(cvE rfl rfl),hN,lN,fun ho=>?_,fun ho=>?_⟩
     ·cases ot with
      | none=>cases ho
      | some t1 =>
       obtain⟨e1,e2,e3⟩:=hk t1 rfl;refine⟨by rw [hR,<- e1],Gj _,by show nq.length<=8192;omega,e2,?_⟩;have k1:KidsT (fun b=>U.heap.size<=b/\b<T.heap.size) T q t.kids:=e3.there;refine (k1.by fun b cs ty fr hb hc=>?_).weak fun b hb=>by omega
       have hlw:=(jN hT.lm);rw [gN.block b (by have:=bE.size;omega) (by simp;omega),bE.block b (by omega),oP b (by omega)]
     ·cases ot with
      | none=>exact hR
      | some t1=>cases ho
  ·
   have h4:¬ (k:Int)=0:=dF h4;rw [GB (by omega)] at hR;refine⟨_,zc (za lY.p) (i:=0) rfl,cmo (zjy 40000 1 st1 Y (by decide) hY (by have:=hY.len;omega)) ?_⟩;rintro e T ⟨t,q,cap,rfl,hk,hT,gT⟩;rcases htm:termP (zD s) 40000 1 st1 with ⟨ot,st2⟩;rw [htm] at hk hT hR;dsimp only at hk hT hR ⊢;have lT:=lY.grown (.inl rfl) hgw gT;refine lT.store hT hgw (k':=k) (nq':=[]) (t':=t) (q':=q) (cap':=cap) (o:=2) (v := .agg (ze t q cap).toArray) k24 rfl (by show 2+3<=5;decide) rfl rfl fun P hP lP oP sP=>?_
   cases ot with
   | none =>
    exact brF (brF ⟨(false,k,[],t,q,cap,st2),(cvE rfl rfl),hP,lP,fun h=>GD h Kv,fun _=>hR⟩)
   | some t1 =>
    obtain⟨e1,e2,e3⟩:=hk t1 rfl;subst e1;have k1:KidsT (fun b=>Y.heap.size<=b/\b<T.heap.size) T q t1.kids:=e3.there;have sT:=gT.size;dsimp only at hR;refine brT ⟨_,zc (za lP.p) (i:=0) rfl,cmo (zcA hP 3 [97,115]) ?_⟩;rintro e U ⟨rfl,hU,gU⟩;rcases hex:qc (zD s) 3 [97,115] st2 with ⟨oe,st3⟩;rw [hex] at hR hU;dsimp only at hU hR ⊢;have lU:=lP.grown (.inl rfl) hgw gU
    cases oe with
    | false =>
     exact brF ⟨(false,k,[],t1,q,cap,st3),(cvE rfl rfl),hU,lU,fun h=>GD h Kv,fun _=>hR⟩
    | true =>
     dsimp only at hR;refine brT ?_;have hpu:=hU.pos;refine⟨_,zc (za lU.p) (i:=0) rfl,cmo (zlu hU lU.p) ?_⟩;rintro e Z ⟨rfl,hZ,gZ⟩;rcases hnm:jG (zD s) st3.checks st3 with ⟨on,st4⟩;rw [hnm] at hR hZ;dsimp only at hZ hR ⊢;have lZ:=lU.grown (.inl rfl) hgw gZ;refine lZ.store hZ hgw (k':=k) (nq':=on.getD []) (t':=t1) (q':=q) (cap':=cap) (o:=1) (v:=zx (on.getD [])) k9 rfl (by show 1+1<=5;decide) rfl rfl fun V hV lV oV sV=>DrawE.ord [6] [0,1,2,3,4,5,6] (by kernel_rfl) ?_;have bE:=(Gm V.heap.size V).drew;have hE:=hV.below bE;have lE:=lV.below bE;refine⟨_,zc (za lE.p) (i:=0) rfl,_,zc (za hE.f) (i:=5) rfl,_,zc (za lE.x) (i:=1) rfl,hE.setC (on.getD []) fun N hN gN=>?_⟩;have lN:=lE.grown (.inr (.inr rfl)) (by omega) gN;refine⟨(on.isSome,k,on.getD [],t1,q,cap,{ st4 with checks:=zdb st4.checks (on.getD []) }),(cvE rfl rfl),hN,lN,fun ho=>?_,fun ho=>?_⟩
     ·cases on with
      | none=>cases ho
      | some nq =>
       have hnl:=zig hnm hpu;refine⟨by rw [hR];rfl,by show k<=3;omega,by show nq.length<=8192;omega,e2,?_⟩;refine (k1.by fun b cs ty fr hb hc=>?_).weak fun b hb=>by omega
       have hcw:=(jN hT.cm);have sU:=gU.size;have sZ:=gZ.size;rw [gN.block b (by have:=bE.size;omega) (by simp;omega),bE.block b (by omega),oV b (by omega),gZ.block b (by omega) (by simp;omega),gU.block b (by omega) (by simp;omega),oP b (by omega)]
     ·cases on with
      | none=>exact hR
      | some nq=>cases ho
 clear hY lY hR hkk hk4 h3 hl4 hs1;rintro⟨ok,k,nq,t,q,cap,st2⟩ Y ⟨hY,lY,hok,hno⟩;dsimp only at hY lY hok hno ⊢;have done:∀ {ok2:Bool} {st3:PS} {Z:Wd},ParB g l c s st3 Z->LinB w g l c k nq t q cap Z->R.1.isSome=ok2->R.2=st3->(∀ x,R.1=some x->x=⟨k,nq,t⟩/\k<=3/\nq.length<=8192/\t.name.length<=8192/\KidsT (fun b=>w.heap.size+2<b) Z q t.kids) ->
   ∃ us:List Value,us.length=5/\zq Z ⟨w.heap.size+2,0,none⟩ us/\w.heap.size+2<Z.heap.size/\SatR ((storeVar 49 ⟨w.heap.size+1,0,none⟩ (.agg us.toArray)).run PG Z) fun _ w'=>∃ us:List Value,us.length=5/\zq w' ⟨w.heap.size+1,0,none⟩ us/\zqx g l c s w R (.returned (jT [.agg us.toArray,.bool ok2])) w':=by
  intro ok2 st3 Z hZ lZ e1 e2 e3;exact⟨_,rfl,za lZ.x,hlt lZ.x,lZ.fin hZ hgw e1 e2 e3⟩
 cases ok with
 | false =>
  have hR:=hno rfl;exact brF (brF (brF (done hY lY (by rw [hR];rfl) (by rw [hR]) (fun x hx=>by rw [hR] at hx;cases hx))))
 | true =>
  obtain⟨hR,hk3,hn,htn,hkd⟩:=hok rfl;unfold znX at hR;refine brT ⟨_,zc (za lY.p) (i:=0) rfl,_,zc (za hY.f) (i:=1) rfl,?_⟩;have good:¬ (st2.tok.kind≠2/\st2.tok.kind≠1)->∃ us:List Value,us.length=5/\zq Y ⟨w.heap.size+2,0,none⟩ us/\w.heap.size+2<Y.heap.size/\SatR ((storeVar 49 ⟨w.heap.size+1,0,none⟩ (.agg us.toArray)).run PG Y) fun _ w'=>∃ us:List Value,us.length=5/\zq w' ⟨w.heap.size+1,0,none⟩ us/\zqx g l c s w R (.returned (jT [.agg us.toArray,.bool true])) w':=fun hc=>by
   rw [GB hc] at hR;exact done hY lY (by rw [hR];rfl) (by rw [hR]) (fun x hx=>by rw [hR] at hx;exact⟨(Ui hx).symm,hk3,hn,htn,hkd⟩)
  refine biE (fun h1=>?_) fun h1=>?_
  ·have h1:(!decide ((st2.tok.kind:Int)=((2:Nat):Int)))=true:=h1;rw [zP] at h1;have h1:st2.tok.kind≠2:=by simpa using h1
   refine⟨_,zc (za lY.p) (i:=0) rfl,_,zc (za hY.f) (i:=1) rfl,biE (fun h2=>?_) fun h2=>?_⟩
   ·have h2:(!decide ((st2.tok.kind:Int)=((1:Nat):Int)))=true:=h2;rw [zP] at h2;have h2:st2.tok.kind≠1:=(by simpa using h2);rw [GC ⟨h1,h2⟩] at hR;refine⟨_,zc (za lY.p) (i:=0) rfl,cmo (jC hY 110) ?_⟩;rintro e Z ⟨rfl,hZ,gZ⟩;exact done hZ (lY.grown (.inl rfl) hgw gZ) (by rw [hR];rfl) (by rw [hR]) (fun x hx=>by rw [hR] at hx;cases hx)
   ·have h2:(!decide ((st2.tok.kind:Int)=((1:Nat):Int)))=false:=h2;rw [zP] at h2;have h2:st2.tok.kind=1:=(by simpa using h2);exact good fun h=>h.2 h2
  ·have h1:(!decide ((st2.tok.kind:Int)=((2:Nat):Int)))=false:=h1;rw [zP] at h1;have h1:st2.tok.kind=2:=by simpa using h1
   exact brF (good fun h=>h.1 h1)
end
abbrev zdf:=LineD×OA×Nat
def zki:Enc zdf:=⟨fun x=>zA x.1.kind x.1.name x.1.term x.2.1 x.2.2,5,fun _=>rfl,by decide,fun a u hu=>by
 simp only [zA,ze,UJ,Qx,Gy] at hu;rcases hu with rfl | rfl | rfl | rfl | rfl <;> rfl⟩
def LinK (Q:Nat->Prop) (w:Wd) (rows:List zdf):Prop:=∀ x∈rows,x.1.kind<=255/\x.1.name.length<=140737488351232/\x.1.term.name.length<=140737488351232/\KidsT Q w x.2.1 x.1.term.kids
def LinsM (Q:Nat->Prop) (w:Wd) (p:OA) (ls:List LineD):Prop:=∃ rows:List zdf,rows.map (·.1)=ls/\SlR zki w p rows/\LinK Q w rows/\(rows≠[]->∀ a,p=some a->Q a.block)
def zvg (r:Option (List LineD)×Nat×Int) (w:Wd) (e:Ending) (w':Wd):Prop :=
 (∃ (p:OA) (cap:Nat),e = .returned (.tuple #[.agg #[.slice p (r.1.getD []).length cap],i64 (r.2.1:Nat),i64 r.2.2])/\(r.1.getD []).length<=40/\LinsM (fun b=>w.heap.size<=b) w' p (r.1.getD []))/\Bw w w'
section
variable {g l c B:Nat} {s:Bs} {st:PS} {w w2 w3 X:Wd}
theorem Oth.low (h:Oth g l c w w2) (h1:B<=g) (h2:B<=l) (h3:B<=c) (h4:B<=w.heap.size):Below B w w2:=⟨h.os,h.tape,h.output,h.size,fun j hj=>h.block j (by omega) (by omega) (by omega) (by omega)⟩
theorem LinK.by {Q:Nat->Prop} {rows:List zdf} (hs:∀ (g:Nat) (cs:Array Value) (t:TypeId) (fr:Nat×Nat),Q g->w.heap[g]?=some (.cells cs t fr)->w2.heap[g]?=w.heap[g]?) (h:LinK Q w rows):LinK Q w2 rows :=
 fun x hx=>⟨(h x hx).1,(h x hx).2.1,(h x hx).2.2.1,(h x hx).2.2.2.by hs⟩
theorem LinK.weak {Q Q':Nat->Prop} {rows:List zdf} (h:LinK Q w rows) (hb:∀ b,Q b->Q' b):LinK Q' w rows :=
 fun x hx=>⟨(h x hx).1,(h x hx).2.1,(h x hx).2.2.1,(h x hx).2.2.2.weak hb⟩
theorem LinK.there {Q:Nat->Prop} {rows:List zdf} (h:LinK Q w rows):LinK (fun b=>Q b/\b<w.heap.size) w rows :=
 fun x hx=>⟨(h x hx).1,(h x hx).2.1,(h x hx).2.2.1,(h x hx).2.2.2.there⟩
theorem LinsM.by {Q:Nat->Prop} {p:OA} {ls:List LineD} (hs:∀ (g:Nat) (cs:Array Value) (t:TypeId) (fr:Nat×Nat),Q g->w.heap[g]?=some (.cells cs t fr)->w2.heap[g]?=w.heap[g]?) (h:LinsM Q w p ls):LinsM Q w2 p ls:=by
 obtain⟨rows,e1,e2,e3,e4⟩:=h;refine⟨rows,e1,?_,e3.by hs,e4⟩;rcases e2 with e2 | ⟨b,o,hp,hb,hc⟩
 ·exact .inl e2
 ·by_cases h0:rows=[]
  ·exact .inl h0
  ·have hl:0<rows.length:=List.length_pos_iff.2 h0;have hq:=e4 h0 _ hp;have h1:=hc 0 hl 0 _ rfl;unfold World.cell? at h1
   split at h1
   ·rename_i cs t fr hblk;have hblk:w.heap[b]?=some (.cells cs t fr):=hblk;have sm:=hs b cs t fr hq hblk;exact .inr ⟨b,o,hp,hlt (sm.trans hblk),fun i hi=>zL sm (hc i hi)⟩
   ·cases h1
theorem LinsM.weak {Q Q':Nat->Prop} {p:OA} {ls:List LineD} (h:LinsM Q w p ls) (hb:∀ b,Q b->Q' b):LinsM Q' w p ls:=by
 obtain⟨rows,e1,e2,e3,e4⟩:=h;exact⟨rows,e1,e2,e3.weak hb,fun h0 a ha=>hb _ (e4 h0 a ha)⟩
theorem LinsM.below {Q:Nat->Prop} {p:OA} {ls:List LineD} (h:LinsM Q w p ls) (b:Bw w w2):LinsM Q w2 p ls:=h.by fun g cs t fr _ hc=>b.block g (hlt hc)
theorem LinsM.all {Q:Nat->Prop} {p:OA} {ls:List LineD} (h:LinsM Q w p ls):LinsM (fun _=>True) w p ls:=h.weak fun _ _=>trivial
theorem LinK.nil {Q:Nat->Prop}:LinK Q w []:=fun x hx=>by cases hx
theorem LinK.snoc {Q:Nat->Prop} {rows:List zdf} {x:zdf} (h:LinK Q w rows) (hx:LinK Q w [x]):LinK Q w (rows++[x]):=fun y hy=>by
 rcases QW.1 hy with hy | hy
 ·exact h y hy
 ·exact hx y hy
theorem zmX (hg:GlobK w) (s:Bs) (hs:s.length<=140737488351232):Calls PG 27 #[zx s] w (zvg (qB s) w):=by
 refine zU 61 [zx s] (.c .p (.s .p (.s .p (.c .p .p)))) Tryz.func27 ?_;obtain⟨R,hR⟩:=nm (qB s);rw [<- hR];unfold qB at hR;have hgl:=hg.lt;refine⟨Unit,fun _=>⟨[(0,zx s),(2,At0 w.heap.size)],[]⟩,fun _ X=>X.heap[w.heap.size]?=some (.cells #[.slice none 0 0] 47 (0,0))/\Bw w X/\X.heap.size=w.heap.size+1,⟨(),(cvE rfl rfl),zt w _,zba _ _,wz _ _⟩,?_⟩;rintro _ W1 ⟨f1,b1,n1⟩;refine biE (fun h1=>?_) fun h1=>?_
 ·have h1:(8192:Int)<(s.length:Int):=dT h1;rw [GC (by omega)] at hR;exact⟨[.slice none 0 0],rfl,zr (v := .agg #[.slice none 0 0]) k47 f1 rfl rfl rfl ⟨[.slice none 0 0],rfl,za (zm f1),⟨none,0,by rw [hR];rfl,by rw [hR];exact Gj _,[],by rw [hR];rfl,.nil,.nil,fun h=>GD rfl h⟩,zk b1 (Gh _) _⟩⟩
 have h1:¬ (8192:Int)<(s.length:Int):=dF h1;have hlen:s.length<=8192:=by omega
 rw [GB (by omega)] at hR;refine⟨Unit,fun _=>⟨[(2,At0 w.heap.size),(5,At0 (w.heap.size+1)),(6,At0 (w.heap.size+4))],[]⟩,fun _ Y=>ParB (w.heap.size+4) (w.heap.size+2) (w.heap.size+3) s ⟨⟨0,[],0⟩,fun _=>false,fun _=>false,0,0,0⟩ Y/\Y.heap[w.heap.size]?=some (.cells #[.slice none 0 0] 47 (0,0))/\Y.heap[w.heap.size+1]?=some (.cells #[.slice none 0 0] 47 (0,0))/\Bw w Y,?_,?_⟩
 ·obtain⟨W2,e2⟩:=nm (W1.alloc (.cells #[.slice none 0 0] 47));have n2:W2.heap.size=w.heap.size+2:=by rw [e2,wz,n1]
  have f2:W2.heap[w.heap.size+1]?=some (.cells #[.slice none 0 0] 47 (0,0)):=by rw [e2,<- n1];exact zt W1 _
  have b2:Bw W1 W2:=by rw [e2];exact zba _ _
  rw [<- e2,<- n1];refine⟨Value.map (some W2.heap.size),W2.alloc (.map #[] 0),rfl,?_⟩;have m3:MapF (key:=zbn) (W2.alloc (.map #[] 0)) W2.heap.size (fun (_:Bs)=>none):=MapF.new;obtain⟨W3,e3⟩:=nm (W2.alloc (.map #[] 0));have n3:W3.heap.size=w.heap.size+3:=by rw [e3,wz,n2]
  have b3:Bw W2 W3:=by rw [e3];exact zba _ _
  rw [<- e3] at m3 ⊢;refine⟨Value.map (some W3.heap.size),W3.alloc (.map #[] 0),rfl,?_⟩;have m4:MapF (key:=zbn) (W3.alloc (.map #[] 0)) W3.heap.size (fun (_:Bs)=>none):=MapF.new;obtain⟨W4,e4⟩:=nm (W3.alloc (.map #[] 0));have n4:W4.heap.size=w.heap.size+4:=by rw [e4,wz,n3]
  have b4:Bw W3 W4:=by rw [e4];exact zba _ _
  rw [<- e4] at m4 ⊢;refine⟨zbQ s W2.heap.size W3.heap.size ⟨⟨0,[],0⟩,fun _=>false,fun _=>false,0,0,0⟩,rfl,?_⟩;have f5:=zt W4 (.cells (zbQ s W2.heap.size W3.heap.size ⟨⟨0,[],0⟩,fun _=>false,fun _=>false,0,0,0⟩).toArray 136);have b5:=zba W4 (.cells (zbQ s W2.heap.size W3.heap.size ⟨⟨0,[],0⟩,fun _=>false,fun _=>false,0,0,0⟩).toArray 136);refine⟨(),⟨.cons rfl (.cons rfl (.cons ?_ .nil)),rfl⟩,?_⟩
  ·show some (At0 W4.heap.size)=_;rw [n4]
  rw [n2,n3] at f5 b5;show _/\_;rw [n2,n3];rw [n4] at f5;have bAll:=zst b1 (zst b2 (zst b3 (zst b4 b5)));have em:(fun (_:Bs)=>(none:Option Value))=zef (fun _=>false):=rfl;rw [em,n2] at m3;rw [em,n3] at m4;refine⟨⟨f5,?_,?_,⟨by omega,by omega,by omega⟩,hg.below bAll,hlen,Gj _,Gj _,Gj _⟩,?_,?_,bAll⟩
  ·exact (m3.below b4).below b5
  ·exact m4.below b5
  ·exact zb b5 (zb b4 (zb b3 (zb b2 f1)))
  ·rw [<- n1] at f2;exact zb b5 (zb b4 (zb b3 f2))
 clear f1 b1 n1 W1;rintro _ Y ⟨hY,fr,fc,bY⟩;dsimp only;refine cmo (zbw hY) ?_;have es:nx s ⟨⟨0,[],0⟩,fun _=>false,fun _=>false,0,0,0⟩=ziH s:=rfl;rw [es];rintro e Z ⟨rfl,hZ,gZ⟩;have frZ:=(gZ.block _ (hlt fr) (by simp)).trans fr;have fcZ:=(gZ.block _ (hlt fc) (by simp)).trans fc;have bZ:Bw w Z:=bY.trans (zo gZ bY.size (by omega));refine⟨List zdf×OA×Nat×PS×Nat,fun y=>⟨[(2,At0 w.heap.size),(5,At0 (w.heap.size+1)),(6,At0 (w.heap.size+4))],[]⟩,
  fun y Y=>ParB (w.heap.size+4) (w.heap.size+2) (w.heap.size+3) s y.2.2.2.1 Y/\Y.heap[w.heap.size]?=some (.cells #[.slice none 0 0] 47 (0,0))/\Y.heap[w.heap.size+1]?=some (.cells #[.slice y.2.1 y.1.length y.2.2.1] 47 (0,0))/\Bw w Y /\
   OwnS zki 49 (w.heap.size+5) Y y.2.1 y.2.2.1 y.1/\LinK (fun b=>w.heap.size+4<b/\∀ a,y.2.1=some a->a.block≠b) Y y.1/\y.1.length<=40/\(∃ i,y.2.2.2.1.tok=zD s i) /\
   R=zg2 (zD s) 40000 y.2.2.2.2 (y.1.map (·.1)) y.2.2.2.1/\s.length-y.2.2.2.1.tok.at_+1<=y.2.2.2.2,
  fun y=>y.2.2.2.2,([],none,0,ziH s,10000),(cvE rfl rfl),?_,?_⟩
 ·exact⟨hZ,frZ,fcZ,bZ,.nil,.nil,Gj _,⟨0,rfl⟩,hR,by show s.length-(ziH s).tok.at_+1<=10000;omega⟩
 clear hZ frZ fcZ bZ gZ hY fr fc bY es hR Z Y;rintro⟨rows,p,cap,st,n⟩ Y ⟨hY,fr,fc,bY,ho,hk,h40,⟨i,hi⟩,hR,hn⟩;dsimp only at hY fc ho hk h40 hi hR hn ⊢;obtain⟨n',rfl⟩:∃ n',n=n'+1:=⟨n-1,by omega⟩;rw [zg2] at hR;have sY:w.heap.size+4<Y.heap.size:=hY.lt;have hps:=hY.pos;refine⟨_,zc (za hY.f) (i:=1) rfl,biE (fun h2=>?_) fun h2=>?_⟩
 ·have h2:(!decide ((st.tok.kind:Int)=((1:Nat):Int)))=true:=h2;rw [zP] at h2;have h2:st.tok.kind≠1:=by simpa using h2
  rw [GB h2] at hR;refine⟨_,zc (za hY.f) (i:=1) rfl,biE (fun h3=>?_) fun h3=>?_⟩
  ·
   have h3:st.tok.kind=2:=dT ((zP (b:=2)).symm.trans h3);rw [GC h3] at hR;have ht:1<=st.tok.text.length:=by rw [hi] at h3 ⊢;exact zni h3
   refine cmo (zbw hY) ?_;rintro e Z ⟨rfl,hZ,gZ⟩;have hx:=zj4 s st;refine⟨(rows,p,cap,nx s st,n'),(cvE rfl rfl),⟨hZ,(gZ.block _ (hlt fr) (by simp)).trans fr,(gZ.block _ (hlt fc) (by simp)).trans fc,bY.trans (zo gZ bY.size (by omega)),?_,?_,h40,⟨_,rfl⟩,hR,?_⟩,QC _⟩
   ·exact ho.kept gZ fun gg hg e=>by have h5:w.heap.size+5<=gg:=(zy ho hg).1;simp at e;omega
   ·exact (hk.there.by fun b cs ty fr hb hc=>gZ.block b hb.2 (by simp;omega)).weak fun b hb=>hb.1
   ·have:(nx s st).tok.at_=(zav (zD s) st).tok.at_:=rfl;dsimp only;omega
  ·
   have h3:st.tok.kind≠2:=dF ((zP (b:=2)).symm.trans h3);rw [GB h3] at hR;refine⟨_,zc (za fc) (i:=0) rfl,cmo (zrp rows.length hY) ?_⟩;rintro e Z ⟨k,nq,t,q,cp,rfl,hl,hZ,oZ⟩;have hm:=zrh (s:=s) 40000 rows.length st;have hon:∀ (x:LineD) (st2:PS),zbS (zD s) 40000 rows.length st=(some x,st2)->st.tok.at_+1<=st2.tok.at_:=fun x st2=>zro;have hmy:∀ (x:LineD) (st2:PS),zbS (zD s) 40000 rows.length st=(some x,st2)->rows.length<40:=fun x st2=>znL;rw [QS] at hR;rcases hln:zbS (zD s) 40000 rows.length st with ⟨r1,st2⟩;rw [hln] at hl hZ hm hR hon hmy;dsimp only at hl hZ hm hR hon hmy ⊢;have bZ:Bw w Z:=bY.trans (oZ.low (by omega) (by omega) (by omega) (by omega));have keep:∀ {j:Nat} {o:Obj},Y.heap[j]?=some o->j≠w.heap.size+4->j≠w.heap.size+2->j≠w.heap.size+3->Z.heap[j]?=some o:=fun {j o} h h1 h2 h3=>(oZ.block j (hlt h) h1 h2 h3).trans h;have frZ:=keep fr (by omega) (by omega) (by omega);have fcZ:=keep fc (by omega) (by omega) (by omega);have sZ:=oZ.size;refine zl (X:=Z) (v := .agg (zA k nq t q cp).toArray) k49 rfl rfl rfl fun U hbU fU sU=>?_;have hU:=hZ.below hbU;have bU:=zst bZ hbU;have frU:=zb hbU frZ;have fcU:=zb hbU fcZ
   cases r1 with
   | none =>
    refine brT ?_;have bE:=(Gm U.heap.size U).drew;have hE:=hU.below bE;have fE:=zb bE frU;have hE2:(U.drew.setRow w.heap.size #[.slice none 0 0]).heap[w.heap.size+4]?=some (.cells (zbQ s (w.heap.size+2) (w.heap.size+3) st2).toArray 136 (0,0)):=(zp (by omega)).trans hE.f;have done:∃ us:List Value,us.length=1/\zq (U.drew.setRow w.heap.size #[.slice none 0 0]) ⟨w.heap.size,0,none⟩ us/\zvg R w (.returned (jT [.agg us.toArray,i64 (st2.tok.at_:Nat),i64 st2.e])) (U.drew.setRow w.heap.size #[.slice none 0 0]) :=
     ⟨[.slice none 0 0],rfl,za (zm fE),⟨none,0,by rw [hR];rfl,by rw [hR];exact Gj _,[],by rw [hR];rfl,.nil,.nil,fun h=>GD rfl h⟩,zk ((zst bU bE)) (Gh _) _⟩
    refine DrawE.treeR [10] (.op 0 (.op 1 (.op 2 (.op 3 (.op 4 (.op 6 (.op 7 (.op 8 (.alt (.op 10 (.alt (.op 5 (.op 9 (.op 11 (.op 12 (.nil))))) (.op 9 (.op 5 (.op 11 (.op 12 (.nil))))))) (.alt (.op 5 (.alt (.op 10 (.op 9 (.op 11 (.op 12 (.nil))))) (.op 9 (.op 10 (.op 11 (.op 12 (.nil))))))) (.op 9 (.alt (.op 10 (.op 5 (.op 11 (.op 12 (.nil))))) (.op 5 (.op 10 (.op 11 (.op 12 (.nil))))))))))))))))) (by kernel_rfl) ⟨[.slice none 0 0],rfl,Gs ?_ (Gs ?_ ?_)⟩
    ·refine zr (v := .agg #[.slice none 0 0]) k47 fE rfl rfl rfl (Gs ?_ ?_)
     ·exact⟨_,zc (za hE2) (i:=3) rfl,_,zc (za hE2) (i:=8) rfl,done⟩
     ·exact⟨_,zc (za hE2) (i:=8) rfl,_,zc (za hE2) (i:=3) rfl,done⟩
    ·refine⟨_,zc (za hE.f) (i:=3) rfl,Gs ?_ ?_⟩
     ·exact zr (v := .agg #[.slice none 0 0]) k47 fE rfl rfl rfl ⟨_,zc (za hE2) (i:=8) rfl,done⟩
     ·exact⟨_,zc (za hE.f) (i:=8) rfl,zr (v := .agg #[.slice none 0 0]) k47 fE rfl rfl rfl done⟩
    ·refine⟨_,zc (za hE.f) (i:=8) rfl,Gs ?_ ?_⟩
     ·exact zr (v := .agg #[.slice none 0 0]) k47 fE rfl rfl rfl ⟨_,zc (za hE2) (i:=3) rfl,done⟩
     ·exact⟨_,zc (za hE.f) (i:=3) rfl,zr (v := .agg #[.slice none 0 0]) k47 fE rfl rfl rfl done⟩
   | some x =>
    obtain⟨rfl,hk3,hnl,htl,hkd⟩:=hl x rfl;refine brF ⟨_,zc (za fcU) (i:=0) rfl,_,rfl,za fU,hlt fU,⟨by decide,by decide,rfl⟩,zA k nq t q cp,rfl,?_⟩;obtain⟨V,hV⟩:=nm (U.alloc (.cells (zA k nq t q cp).toArray 49));have hbV:Bw U V:=(by rw [hV];exact zba _ _);have sV:V.heap.size=U.heap.size+1:=(by rw [hV];exact wz _ _);have cV:zq V ⟨U.heap.size,0,none⟩ ([((⟨k,nq,t⟩,q,cp):zdf)].flatMap zki.enc):=(by rw [hV];exact qt zki ((⟨k,nq,t⟩,q,cp):zdf));have bV:=zst bU hbV;have hVp:=hU.below hbV;have hoV:OwnS zki 49 (w.heap.size+5) V p cap rows:=((ho.same fun a ha=>oZ.block a.block (zy ho ha).2.1 (by have:=(zy ho ha).1;omega) (by have:=(zy ho ha).1;omega) (by have:=(zy ho ha).1;omega)).below hbU).below hbV;rw [<- hV];refine qQ (E:=zki) (news:=[((⟨k,nq,t⟩,q,cp):zdf)]) (m:=1) Tryz.underlying45 k49 rfl rfl rfl hoV rfl cV (by omega) (by omega) (by show (rows.length+1)*72<=140737488355328;omega) fun p2 c2 T hoT gT bT hat=>?_;have ownb:∀ {j:Nat},j<w.heap.size+5->(Value.slice p rows.length cap).ownBlock≠some j:=fun {j} hj e=>by
     have:=(QH hoV j e).1;omega
    have tk:∀ {j:Nat} {o:Obj},V.heap[j]?=some o->j<w.heap.size+5->T.heap[j]?=some o:=fun {j o} h hj=>(gT.block j (hlt h) (ownb hj).symm).trans h;have hT:ParB (w.heap.size+4) (w.heap.size+2) (w.heap.size+3) s st2 T:=hVp.upto ⟨bT.os,bT.tape,bT.output,bT.size,fun j hj=>gT.block j (by omega) (ownb (by omega)).symm⟩;have fcT:=tk (zb hbV fcU) (by omega);have frT:=tk (zb hbV frU) (by omega);refine zr (v := .slice p2 (rows++[((⟨k,nq,t⟩,q,cp):zdf)]).length c2) k45 fcT rfl rfl rfl ?_;have bS:=zk (B:=w.heap.size) (Gm _ T) (Nat.le_succ w.heap.size) (Value.slice p2 (rows++[((⟨k,nq,t⟩,q,cp):zdf)]).length c2).cells;refine⟨(rows++[((⟨k,nq,t⟩,q,cp):zdf)],p2,c2,st2,n'),(cvE rfl rfl),⟨?_,(zp (by omega)).trans frT,zm fcT,(bV.trans (bT.mono (by omega))).trans bS,?_,?_,?_,?_,?_,?_⟩,QC _⟩
    ·
     have og:=hT.ord;have hgT:=hT.glob;have sm:∀ {j},j≠w.heap.size+1->(T.setRow (w.heap.size+1) (Value.slice p2 (rows++[((⟨k,nq,t⟩,q,cp):zdf)]).length c2).cells).heap[j]?=T.heap[j]?:=fun {j} hj=>zp hj;exact⟨(sm (by omega)).trans hT.f,hT.lm.same (sm (by omega)),hT.cm.same (sm (by omega)),og,hgT.grown (g:=w.heap.size+1) (by omega) (qx T _ _),hT.len,hT.pos,hT.nod,hT.dep⟩
    ·refine hoT.kept (qx T (w.heap.size+1) _) fun gg hg e=>?_;have h5:w.heap.size+5<=gg:=(zy hoT hg).1;simp at e;omega
    ·have other:∀ {b:Nat} {cs:Array Value} {ty:TypeId} {fr:Nat×Nat},w.heap.size+4<b->(∀ a,p=some a->a.block≠b)->b<Z.heap.size->(T.setRow (w.heap.size+1) (Value.slice p2 (rows++[((⟨k,nq,t⟩,q,cp):zdf)]).length c2).cells).heap[b]?=Z.heap[b]?/\∀ a,p2=some a->a.block≠b:=by
      intro b cs ty fr h1 h2 h3;refine⟨?_,fun a ha=>?_⟩
      ·rw [zp (by omega),gT.block b (by omega) ?_,hbV.block b (by omega),hbU.block b h3];intro e;rcases p with _ | a
       ·simp [Value.ownBlock] at e
       ·rcases hoV.inv with ⟨h0,_⟩ | ⟨gg,_,h0,_⟩
        ·cases h0
        ·cases h0
         simp [Value.ownBlock] at e;exact h2 _ rfl e.symm
      ·rcases hat a ha with h4 | h4
       ·exact h2 a h4
       ·omega
     refine LinK.snoc ?_ ?_
     ·have k1:LinK (fun b=>(w.heap.size+4<b/\∀ a,p=some a->a.block≠b)/\b<Y.heap.size) Y rows:=hk.there;have k2:LinK (fun b=>(w.heap.size+4<b/\∀ a,p=some a->a.block≠b)/\b<Y.heap.size) Z rows:=k1.by fun b cs ty fr hb hc=>oZ.block b hb.2 (by omega) (by omega) (by omega)
      refine (k2.by fun b cs ty fr hb hc=>(other (cs:=cs) (ty:=ty) (fr:=fr) hb.1.1 hb.1.2 (by omega)).1).weak fun b hb=>⟨hb.1.1,(other (cs := #[]) (ty:=0) (fr:=(0,0)) hb.1.1 hb.1.2 (by omega)).2⟩
     ·intro x hx;obtain rfl:=KC.1 hx;have pl:∀ {b:Nat},Y.heap.size<=b->∀ a,p=some a->a.block≠b:=fun {b} hb a ha e=>by have:=(zy ho ha).2.1;omega
      have k1:KidsT (fun b=>Y.heap.size<=b/\b<Z.heap.size) Z q t.kids:=hkd.there;refine⟨by show k<=255;omega,by show nq.length<=_;omega,by show t.name.length<=_;omega,?_⟩;exact (k1.by fun b cs ty fr hb hc=>(other (cs:=cs) (ty:=ty) (fr:=fr) (by omega) (pl hb.1) hb.2).1).weak fun b hb=>⟨by omega,(other (cs := #[]) (ty:=0) (fr:=(0,0)) (by omega) (pl hb.1) hb.2).2⟩
    ·dsimp only;rw [lap];have hlt:=hmy _ _ rfl;show rows.length+1<=40;omega
    ·rcases hm.2.2 with e | e
     ·exact⟨i,e.trans hi⟩
     ·exact e
    ·dsimp only;rw [hR,QV];rfl
    ·have:=hon _ _ rfl;have hp2:=hZ.pos;dsimp only;omega
 ·have h2:(!decide ((st.tok.kind:Int)=((1:Nat):Int)))=false:=h2;rw [zP] at h2;have h2:st.tok.kind=1:=by simpa using h2
  rw [GC h2] at hR;refine⟨_,rfl,za fc,hlt fc,zr (v := .agg #[.slice p rows.length cap]) k47 fr rfl rfl rfl ?_⟩;have ok2:OwnS zki 49 (w.heap.size+5) (Y.setRow w.heap.size (Value.agg #[.slice p rows.length cap]).cells) p cap rows:=ho.kept (qx Y w.heap.size _) fun gg hg e=>by
   have h5:w.heap.size+5<=gg:=(zy ho hg).1;simp at e;omega
  refine⟨[.slice p rows.length cap],rfl,za (zm fr),⟨p,cap,by rw [hR];show _=Ending.returned (.tuple #[.agg #[.slice p (rows.map (·.1)).length cap],i64 0,i64 0]);rw [QS];rfl,by rw [hR];show (rows.map (·.1)).length<=40;rw [QS];exact h40,rows,by rw [hR];rfl,ok2.row,?_,fun _ a ha=>by have:=(zy ok2 ha).1;omega⟩,zk bY (Gh _) _⟩;exact (hk.by fun b cs ty fr hb hc=>zp (by omega)).weak fun b hb=>by omega
end
end Go.Proofs.YtnadlhpkpnfmbaaGreatDoor
namespace Go.Proofs.YtnadlhpkpnfmbaaGreatDoor
open Go.Vc
mutual
def nodesT:Trm->Nat
 | .mk _ _ l=>1+nodesK l
def nodesK:List Trm->Nat
 | []=>0
 | t::r=>nodesT t+nodesK r
end
inductive VT:Trm->Prop
 | mk (k:UInt8) (nq:Bs) (kids:List Trm) (hk:k.toNat<10) (hl:(kids.length:Int)=js k.toNat) (hn:nq.length<=16) (hv:∀ x∈kids,VT x):VT (.mk k nq kids)
theorem VT.inv {k:UInt8} {nq:Bs} {kids:List Trm} (h:VT (.mk k nq kids)):k.toNat<10/\(kids.length:Int)=js k.toNat/\nq.length<=16/\∀ x∈kids,VT x:=by
 cases h with
 | mk _ _ _ h1 h2 h3 h4=>exact⟨h1,h2,h3,h4⟩
theorem zo2 {s:Bs} (h:j7 s=true):s.length<=16:=by
 unfold j7 at h;rw [Qm] at h;obtain⟨w,hw,he⟩:=h;have he:=dT he;subst he
 revert hw
 have:∀ w∈[[112,111],[114,102],[99,111],[102,114],[114,109,119],[100,97,116,97],[99,116,114,108],[108,111,99],[105,100],[101,120,116],[105,110,116]],(w:Bs).length<=16:=by decide
 exact this _
theorem zoQ {s:Bs} (h:zhE s=true):s.length<=16:=by
 unfold zhE at h;rw [Qm] at h;obtain⟨w,hw,he⟩:=h;have he:=dT he;subst he
 revert hw
 have:∀ w∈[[82],[87],[70],[77],[65],[76],[88],[70,70],[70,76],[70,83],[73]],(w:Bs).length<=16:=by decide
 exact this _
theorem zfe (lets:Bs->Bool) (n:Nat):∀ t,n<=(chkT lets n t).2/\((chkT lets n t).1=true->(chkT lets n t).2<=400):=fun t=>by
 cases t with
 | mk k nq kids=>exact go n k nq kids
where
 go (n:Nat) (k:UInt8) (nq:Bs):∀ kids,n<=(chkT lets n (.mk k nq kids)).2/\((chkT lets n (.mk k nq kids)).1=true->(chkT lets n (.mk k nq kids)).2<=400):=fun kids=>by
  rw [chkT]
  split
  ·exact⟨by show n<=n+1;omega,fun h=>by cases h⟩
  ·split
   ·exact⟨by show n<=n+1;omega,fun _=>by show n+1<=400;omega⟩
   ·split
    ·exact⟨by show n<=n+1;omega,fun _=>by show n+1<=400;omega⟩
    ·split
     ·exact⟨by show n<=n+1;omega,fun h=>by cases h⟩
     ·have:=goL (n+1) kids (by omega);exact⟨by omega,this.2⟩
 goL (n:Nat):∀ kids,n<=400->n<=(chkL lets n kids).2/\((chkL lets n kids).1=true->(chkL lets n kids).2<=400)
  | [],h=>by rw [chkL];exact⟨Gh _,fun _=>h⟩
  | .mk k nq l::r,h=>by
   rw [chkL];have:=go n k nq l
   split <;> rename_i n2 e <;> rw [e] at this
   ·exact⟨this.1,fun h=>by cases h⟩
   ·have h2:=goL n2 r (this.2 rfl);have h3:=this.1;exact⟨by dsimp only at h3;omega,h2.2⟩
theorem zfM (lets:Bs->Bool) (hl:∀ s,lets s=true->s.length<=16):∀ t n n',chkT lets n t=(true,n')->VT t/\n'=n+nodesT t
 | .mk k nq kids,n,n',h=>by
  rw [chkT] at h
  split at h
  ·cases h
  ·rename_i hc;have h1:k.toNat<10:=by
    refine Jn fun hn=>hc (.inr (.inl (by omega)))
   have h2:(kids.length:Int)=js k.toNat:=by
    refine Jn fun hn=>hc (.inr (.inr hn))
   split at h
   ·rename_i hk;have hk0:kids=[]:=by
     rw [hk] at h2;have:(kids.length:Int)=0:=h2;exact Jf (by omega)
    subst hk0;have h:=Gk h;have hnm:nq.length<=16:=by
     have:=h.1;rw [QK] at this;rcases this with h | h
     ·exact zo2 h
     ·exact hl _ h
    exact⟨.mk _ _ _ h1 h2 hnm (fun x hx=>by cases hx),by rw [<- h.2,nodesT,nodesK]⟩
   ·split at h
    ·rename_i hk;have hk0:kids=[]:=by
      rw [hk] at h2;have:(kids.length:Int)=0:=h2;exact Jf (by omega)
     subst hk0;have h:=Gk h;exact⟨.mk _ _ _ h1 h2 (zoQ h.1) (fun x hx=>by cases hx),by rw [<- h.2,nodesT,nodesK]⟩
    ·split at h
     ·cases h
     ·rename_i hnm;have hnm:nq=[]:=Jn hnm;obtain⟨hv,hn⟩:=go kids (n+1) n' h;exact⟨.mk _ _ _ h1 h2 (by rw [hnm];exact Gj _) hv,by rw [hn,nodesT];omega⟩
where
 go:∀ (l:List Trm) n n',chkL lets n l=(true,n')->(∀ x∈l,VT x)/\n'=n+nodesK l
  | [],n,n',h=>by
   rw [chkL] at h;refine⟨fun x hx=>?_,?_⟩
   ·cases hx
   ·rw [nodesK];exact (Gk h).2.symm
  | t::r,n,n',h=>by
   rw [chkL] at h
   split at h
   ·cases h
   ·rename_i n2 e;obtain⟨h1,h2⟩:=zfM lets hl t n n2 e;obtain⟨h3,h4⟩:=go r n2 n' h;refine⟨fun x hx=>?_,by rw [h4,h2,nodesK];omega⟩;rcases UJ.1 hx with rfl | hx
    ·exact h1
    ·exact h3 x hx
def zt1 (w w2:Pr) (n:Nat):Prop:=w2.text.length<=w.text.length+24*n/\w2.deep=w.deep/\w2.most<=max w.most (w.deep+n)/\w.text.length<=w2.text.length
theorem zfv:∀ t:Trm,1<=nodesT t
 | .mk _ _ _=>by rw [nodesT];omega
theorem qG (w:Pr) (s:Bs):(qW w s).text.length=w.text.length+s.length:=lap
theorem zeA (k:Nat):(zeB k).length<=3:=by
 unfold zeB;rcases Nat.lt_or_ge k 10 with h | h
 ·have:∀ j:Fin 10,(([[],[],[124],[38],[92],[59],[94,45,49],[43],[42],[]]:List Bs).getD j.1 []).length<=3:=by decide
  exact this ⟨k,h⟩
 ·rw [gDe,JJ (by simpa using h)];decide
theorem ze5 {t:Trm} (ht:∀ w,zt1 w (prT w t) (nodesT t)) (w:Pr) (least:Nat) (r:List Trm):(prHead w least (t::r)).text.length<=w.text.length+24*nodesT t+2/\(prHead w least (t::r)).deep=w.deep/\(prHead w least (t::r)).most<=max w.most (w.deep+nodesT t+1)/\w.text.length<=(prHead w least (t::r)).text.length:=by
 rw [prHead]
 split
 ·have:=ht w;exact⟨by have:=this.1;omega,this.2.1,by have:=this.2.2.1;omega,this.2.2.2⟩
 ·have:=ht (qW { w with deep:=w.deep+1,most:=max w.most (w.deep+1) } [40]);obtain⟨h1,h2,h3,h4⟩:=this;rw [qG] at h1 h4;have e1:([40]:Bs).length=1:=rfl;have e2:([41]:Bs).length=1:=rfl;dsimp only [qW] at h1 h2 h3 h4 ⊢;refine⟨?_,?_,?_,?_⟩
  ·rw [lap];omega
  ·omega
  ·omega
  ·rw [lap];omega
theorem zcN:∀ t,VT t->∀ w,zt1 w (prT w t) (nodesT t)
 | .mk k nq kids,hv,w=>by
  obtain⟨hk,hl,hn,hkv⟩:=hv.inv;have ih:∀ x∈kids,∀ w,zt1 w (prT w x) (nodesT x):=fun x hx=>zcN x (hkv x hx);rw [prT]
  split
  ·rw [nodesT];refine⟨by rw [qG];omega,rfl,by show w.most<=_;omega,by rw [qG];omega⟩
  ·split
   ·rw [nodesT];refine⟨by simp only [qG,Qu,QT];omega,rfl,by show w.most<=_;omega,by simp only [qG];omega⟩
   ·rename_i hk1 hk9
    split
    ·rename_i h68;have hl1:kids.length=1:=by
      rcases h68 with rfl | rfl | rfl
      all_goals
       have:(kids.length:Int)=1:=hl;omega
     match kids,hl1,ih with
     | [a],_,ih =>
      have h1:=ze5 (ih a KB) w 5 [];have h2:=zeA k.toNat;rw [nodesT,nodesK,nodesK];refine⟨by rw [qG];omega,h1.2.1,by have:=h1.2.2.1;show (prHead w 5 [a]).most<=_;omega,by rw [qG];omega⟩
    ·rename_i h68;have hl2:kids.length=2:=by
      have key:∀ j:Fin 10,j.1≠1->j.1≠9->j.1≠6->j.1≠7->j.1≠8->js j.1=2\/js j.1 = -1:=(by decide);have nk:∀ (m:UInt8),k≠m->k.toNat≠m.toNat:=fun m h e=>h (Uj.1 e);rcases key ⟨k.toNat,hk⟩ (nk 1 hk1) (nk 9 hk9) (nk 6 (fun e=>h68 (.inl e))) (nk 7 (fun e=>h68 (.inr (.inl e)))) (nk 8 (fun e=>h68 (.inr (.inr e)))) with h | h
      ·have h:js k.toNat=2:=h;omega
      ·have h:js k.toNat = -1:=h;omega
     match kids,hl2,ih with
     | [a,b],_,ih =>
      have h1:=ze5 (ih a KB) w (zda k.toNat) [b];have h2:=zeA k.toNat;have h3:=ze5 (ih b (JW _ KB)) (qW (qW (qW (prHead w (zda k.toNat) [a,b]) [32]) (zeB k.toNat)) [32]) (zda k.toNat+1) [];rw [nodesT,nodesK,nodesK,nodesK];rw [prTail];simp only [qG,Qu,QT] at h3;obtain⟨a1,a2,a3,a4⟩:=h1;obtain⟨b1,b2,b3,b4⟩:=h3;have na:=zfv a;have nb:=zfv b;dsimp only [qW] at b2 b3;refine⟨by omega,by dsimp only [qW];omega,?_,by omega⟩;dsimp only [qW];omega
end Go.Proofs.YtnadlhpkpnfmbaaGreatDoor
namespace Go.Proofs.YtnadlhpkpnfmbaaGreatDoor
open Go.Vc Go.RowKit Go.Sei
theorem zpC (s:Bs) (hs:s.length<=140737488351232) (w:Wd) (hg:GlobK w):Calls PG 144 #[zx s] w fun e w'=>e = .returned (.bool (zcx s))/\w=w':=by
 refine zI 27 [zx s] Tryz.func144 ?_;unfold zcx;refine⟨_,fun w=>zeQ _ _ s [] w,?_⟩;refine biE (fun h=>?_) fun h=>?_
 ·have h:(!decide (s=[]))=true:=h;have h0:s≠[]:=by simpa using h
  have hp:0<s.length:=List.length_pos_iff.2 h0;rw [Ux h0,UD];refine biE (fun h1=>?_) fun h1=>?_
  ·have h1:(s.length:Int)<=16:=dT h1;rw [Ux (p:=s.length<=16) (by omega),UD];refine⟨0,rfl,hp,s[0],zd6 hp,?_⟩;have e0:s.getD 0 0=s[0]:=by rw [gDe,gE hp];rfl
   rw [e0];refine cmo (zgY s[0] w) ?_;rintro e _ ⟨rfl,rfl⟩;refine biE (fun h2=>?_) fun h2=>?_
   ·have h2:za0 s[0]=true:=h2;rw [h2,UD];refine cmo (zhW s 0 (Gj _) hs w) ?_;rintro e _ ⟨rfl,rfl⟩;have hd:decide (((jf qJ s 0:Nat):Int)=(s.length:Int))=decide (jf qJ s 0=s.length):=zP;refine biE (fun h3=>?_) fun h3=>?_
    ·have h3:decide (jf qJ s 0=s.length)=true:=hd.symm.trans h3;rw [h3,UD];refine cmo (zmB s w hg) ?_;rintro e _ ⟨rfl,rfl⟩;exact⟨rfl,rfl⟩
    ·have h3:decide (jf qJ s 0=s.length)=false:=hd.symm.trans h3;refine⟨rb ?_,rfl⟩;rw [h3];rfl
   ·have h2:za0 s[0]=false:=h2;refine brF ?_;refine⟨rb ?_,rfl⟩;rw [h2];rfl
  ·have h1:¬ (s.length:Int)<=16:=dF h1;refine brF ?_;refine brF ?_;refine⟨rb ?_,rfl⟩;rw [Ul (p:=s.length<=16) (by omega)];rfl
 ·have h:(!decide (s=[]))=false:=h;have h0:s=[]:=by simpa using h
  refine brF ?_;refine brF ?_;refine brF ?_;refine⟨rb ?_,rfl⟩;rw [h0];rfl
structure ChkB (kb l:Nat) (lets:Bs->Bool) (n:Nat) (w:Wd):Prop where
 f:w.heap[kb]?=some (.cells #[.map (some l),i64 (n:Nat)] 110 (0,0))
 lm:MapF zbn w l (zef lets)
 ne:l≠kb
 og:3<kb
 ol:3<l
 glob:GlobK w
section
variable {kb l:Nat} {lets:Bs->Bool} {n:Nat} {w w2 X Y:Wd} {Q:Nat->Prop}
theorem ChkB.lt (h:ChkB kb l lets n w):kb<w.heap.size:=hlt h.f
theorem ChkB.below (h:ChkB kb l lets n w) (hb:Bw w w2):ChkB kb l lets n w2:=⟨zb hb h.f,h.lm.below hb,h.ne,h.og,h.ol,h.glob.below hb⟩
theorem ChkB.count (h:ChkB kb l lets n w) {m:Nat} {K:Wd->Prop} (k:∀ Y,ChkB kb l lets m Y->w.grownBy Y (some kb)->K Y) :
  SatR ((storeVar 3 ⟨kb,1,none⟩ (i64 (m:Nat))).run PG w) fun _ w'=>K w':=by
 have hn:=h.ne;exact zw k3 h.f (o:=1) (v:=i64 (m:Nat)) rfl rfl (by show 1<2;decide) rfl fun Y fY gY _=>k Y ⟨fY,h.lm.same (gY.block l (jN h.lm) (by simp;omega)),hn,h.og,h.ol,h.glob.grown h.og gY⟩ gY
structure ChT (Q:Nat->Prop) (w:Wd) (kb l:Nat) (lets:Bs->Bool) (n tb:Nat) (t:Trm) (q:OA) (cap:Nat) (X:Wd):Prop where
 p:ChkB kb l lets n X
 x:X.heap[tb]?=some (.cells (ze t q cap).toArray 24 (0,0))
 k:KidsT Q X q t.kids
 o:w.grownBy X (some kb)
 ne:tb≠kb
theorem ChT.grown {m tb:Nat} {t:Trm} {q:OA} {cap:Nat} (hQ:∀ b,Q b->b≠kb) (h:ChT Q w kb l lets n tb t q cap X) (hY:ChkB kb l lets m Y) (g:X.grownBy Y (some kb)):ChT Q w kb l lets m tb t q cap Y:=by
 have hne:=h.ne;exact⟨hY,(g.block _ (hlt h.x) (by simp;omega)).trans h.x,h.k.by fun b cs ty fr hb hc=>g.block b (hlt hc) (by have:=hQ b hb;simp;omega),zg h.o g,hne⟩
theorem zrg (hg:GlobK w) {k:Nat} (hk:k<10):w.cell? ⟨0,0+k,none⟩=some (i64 (js k)):=by
 refine zc hg.nd ?_;have hk:k<zeR.length:=hk;rw [KW,gE hk];unfold js;rw [gDe];show some (i64 zeR[k])=some (i64 ((zeR[k]?).getD (-1)));rw [gE hk];rfl
def zud (kb l:Nat) (lets:Bs->Bool) (Q:Nat->Prop) (t:Trm):Prop:=∀ (n:Nat) (q:OA) (cap:Nat) (w:Wd),n<=400->ChkB kb l lets n w->t.name.length<=140737488351232->KidsT Q w q t.kids ->
 Calls PG 49 #[At0 kb,.agg (ze t q cap).toArray] w fun e w'=>e = .returned (.bool (chkT lets n t).1)/\ChkB kb l lets (chkT lets n t).2 w'/\w.grownBy w' (some kb)
theorem ztQ (hQ:∀ b,Q b->b≠kb) {k:UInt8} {nq:Bs} {kids:List Trm} (ih:∀ x∈kids,zud kb l lets Q x):zud kb l lets Q (.mk k nq kids):=by
 intro n q cap w hn hB hnm hkd;refine zU 71 [At0 kb,.agg (ze (.mk k nq kids) q cap).toArray] (.c .p (.c .p (.c .p (.c .p (.c .p (.c .p .p)))))) Tryz.func49 ?_;obtain⟨R,hR⟩:=nm (chkT lets n (.mk k nq kids));rw [<- hR];rw [chkT] at hR;have hkb:=hB.lt;have hkl:kids.length<=140737488351232:=hkd.inv.1;have nk:∀ m:UInt8,decide ((k.toNat:Int)=(m.toNat:Int))=decide (k=m):=fun m=>qT k m;refine⟨Unit,fun _=>⟨[(0,At0 kb),(3,At0 w.heap.size)],[]⟩,fun _ X=>ChT Q w kb l lets n w.heap.size (.mk k nq kids) q cap X,⟨(),(cvE rfl rfl),hB.below (zba _ _),zt w _,hkd.kept (zba _ _),zh (zba _ _),by omega⟩,?_⟩;rintro _ X hX;refine⟨Unit,fun _=>⟨[(0,At0 kb),(3,At0 w.heap.size)],[]⟩,fun _ X=>ChT Q w kb l lets (n+1) w.heap.size (.mk k nq kids) q cap X,?_,?_⟩
 ·refine⟨_,zc (za hX.p.f) (i:=1) rfl,?_⟩;refine nxI (by omega) ?_;refine hX.p.count (m:=n+1) fun Y hY gY=>?_;exact⟨(),(cvE rfl rfl),hX.grown hQ hY gY⟩
 clear hX hB;rintro _ X hX;have no:∀ {Y:Wd},ChT Q w kb l lets (n+1) w.heap.size (.mk k nq kids) q cap Y->R=(false,n+1)->Ending.returned (.bool false) = .returned (.bool R.1)/\ChkB kb l lets R.2 Y/\w.grownBy Y (some kb):=fun {Y} hY hR=>⟨rb (Gw Prod.fst hR).symm,by rw [hR];exact hY.p,hY.o⟩;refine⟨Unit,fun _=>⟨[(0,At0 kb),(3,At0 w.heap.size)],[]⟩,fun _ X=>ChT Q w kb l lets (n+1) w.heap.size (.mk k nq kids) q cap X/\¬ (n+1 > 400\/k.toNat ≥ 10\/(kids.length:Int)≠js k.toNat),?_,?_⟩
 ·refine DrawE.ord [] [0,1,2,3,4,5,6,7,8,9,10,11,12,13,14,15,16,17,18,19,20] (by kernel_rfl) ?_;have bD:=(Gm X.heap.size X).drew;have hD:ChT Q w kb l lets (n+1) w.heap.size (.mk k nq kids) q cap X.drew:=hX.grown hQ (hX.p.below bD) (zh bD);refine⟨_,zc (za hD.p.f) (i:=1) rfl,?_⟩;have bad:(n+1 > 400\/k.toNat ≥ 10\/(kids.length:Int)≠js k.toNat)->R=(false,n+1):=fun h=>by rw [hR,GC h]
  refine biE (fun h1=>?_) fun h1=>?_
  ·have h1:(400:Int)<((n+1:Nat):Int):=dT h1;refine brT ?_;refine brT ?_;exact no hD (bad (.inl (by omega)))
  have h1:¬ (400:Int)<((n+1:Nat):Int):=dF h1;refine⟨_,zc (za hD.x) (i:=0) rfl,?_⟩;have hk8:=k.toNat_lt;refine⟨(k.toNat:Int),zi (a:=(k.toNat:Int)) (by omega),?_⟩;refine biE (fun h2=>?_) fun h2=>?_
  ·have h2:(10:Int)<=(k.toNat:Int):=dT h2;refine brT ?_;exact no hD (bad (.inr (.inl (by omega))))
  have h2:¬ (10:Int)<=(k.toNat:Int):=dF h2;refine⟨_,zc (za hD.x) (i:=2) rfl,?_⟩;refine⟨_,zc (za hD.x) (i:=0) rfl,?_⟩;refine⟨k.toNat,rfl,by omega,?_⟩;refine⟨_,by rw [Gi];exact zrg hD.p.glob (by omega),?_⟩;refine biE (fun h3=>?_) fun h3=>?_
  ·have h3:(!decide ((kids.length:Int)=js k.toNat))=true:=h3;exact no hD (bad (.inr (.inr (by simpa using h3))))
  ·have h3:(!decide ((kids.length:Int)=js k.toNat))=false:=h3;have h3:(kids.length:Int)=js k.toNat:=by simpa using h3
   exact⟨(),(cvE rfl rfl),hD,by rintro (h | h | h);omega;omega;exact h h3⟩
 clear hX;rintro _ X ⟨hX,hgood⟩;rw [GB hgood] at hR;refine⟨Unit,fun _=>⟨[(0,At0 kb),(3,At0 w.heap.size)],[]⟩,fun _ X=>ChT Q w kb l lets (n+1) w.heap.size (.mk k nq kids) q cap X/\k≠1/\k≠9,?_,?_⟩
 ·refine⟨_,zc (za hX.x) (i:=0) rfl,?_⟩;refine biE (fun h1=>?_) fun h1=>?_
  ·have h1:k=1:=dT ((nk 1).symm.trans h1);rw [GC h1] at hR;refine DrawE.ord [] [0,1,2,3,4,5,6,7,8,9,10,11,12] (by kernel_rfl) ?_;have bD:=(Gm X.heap.size X).drew;have hD:ChT Q w kb l lets (n+1) w.heap.size (.mk k nq kids) q cap X.drew:=hX.grown hQ (hX.p.below bD) (zh bD);refine⟨_,zc (za hD.x) (i:=1) rfl,?_⟩;refine cmo (zgn nq _) ?_;rintro e _ ⟨rfl,rfl⟩;refine⟨Gm _ _,?_⟩;refine biE (fun h2=>?_) fun h2=>?_
   ·have h2:j7 nq=true:=h2;exact⟨rb (by rw [hR,h2];rfl),by rw [hR];exact hD.p,hD.o⟩
   ·have h2:j7 nq=false:=h2;refine⟨_,zc (za hD.p.f) (i:=0) rfl,?_⟩;refine⟨_,zc (za hD.x) (i:=1) rfl,?_⟩;refine⟨_,fun w2 hb=>zdr (hD.p.lm.below hb) nq,?_⟩;exact⟨rb (by rw [hR,h2];rfl),by rw [hR];exact hD.p,hD.o⟩
  have h1:k≠1:=dF ((nk 1).symm.trans h1);rw [GB h1] at hR;refine biE (fun h2=>?_) fun h2=>?_
  ·have h2:k=9:=dT ((nk 9).symm.trans h2);rw [GC h2] at hR;refine⟨_,zc (za hX.x) (i:=1) rfl,?_⟩;refine cmo (zmA nq X) ?_;rintro e _ ⟨rfl,rfl⟩;exact⟨rb (Gw Prod.fst hR).symm,by rw [hR];exact hX.p,hX.o⟩
  ·have h2:k≠9:=dF ((nk 9).symm.trans h2);exact⟨(),(cvE rfl rfl),hX,h1,h2⟩
 clear hX;rintro _ X ⟨hX,h1,h9⟩;rw [GB h1,GB h9] at hR;refine⟨Unit,fun _=>⟨[(0,At0 kb),(3,At0 w.heap.size)],[]⟩,fun _ X=>ChT Q w kb l lets (n+1) w.heap.size (.mk k nq kids) q cap X/\nq=[],?_,?_⟩
 ·refine⟨_,zc (za hX.x) (i:=1) rfl,?_⟩;refine⟨_,fun w=>zeQ _ _ nq [] w,?_⟩;refine biE (fun h2=>?_) fun h2=>?_
  ·have h2:(!decide (nq=[]))=true:=h2;have h2:nq≠[]:=by simpa using h2
   rw [GC h2] at hR;exact no hX hR
  ·have h2:(!decide (nq=[]))=false:=h2;exact⟨(),(cvE rfl rfl),hX,by simpa using h2⟩
 clear hX;rintro _ X ⟨hX,hnm0⟩;rw [GB (fun h=>h hnm0)] at hR;refine⟨Nat,fun _=>⟨[],[]⟩,fun m X=>ChkB kb l lets m X/\w.grownBy X (some kb)/\R=(true,m),?_,?_⟩
 ·refine⟨_,zc (za hX.x) (i:=2) rfl,?_⟩;refine⟨Nat×Nat,fun y=>⟨[(0,At0 kb),(3,At0 w.heap.size),(60,.slice q kids.length cap),(61,i64 (kids.length:Nat)),(62,.int .i64 (y.1:Nat))],[]⟩,fun y X=>ChT Q w kb l lets y.2 w.heap.size (.mk k nq kids) q cap X/\y.1<=kids.length/\y.2<=400/\R=chkL lets y.2 (kids.drop y.1),fun y=>kids.length-y.1,(0,n+1),(cvE rfl rfl),⟨hX,Gj _,by dsimp only;omega,hR⟩,?_⟩;clear hX hR;rintro⟨i,m⟩ X ⟨hX,hi,hm,hR⟩;dsimp only at hX hi hm hR ⊢;refine biE (fun hc=>?_) fun hc=>?_
  ·have hc:(i:Int)<(kids.length:Int):=dT hc;have hil:i<kids.length:=by omega
   obtain⟨_,b,o,hq,hcl⟩:=hX.k.inv;obtain⟨q2,c2,hnl,hQb,hcell,hk2⟩:=hcl i hil;have hcell:zq X ⟨b,o+i*3,none⟩ (ze kids[i] q2 c2):=hcell;have hk2:KidsT Q X q2 kids[i].kids:=hk2;have hnl:kids[i].name.length<=140737488351232:=hnl;obtain rfl:q=some ⟨b,o,none⟩:=by
    rcases hq with h | h
    ·have h:kids.length=0:=h;omega
    ·exact h
   have hbs:b<X.heap.size:=by
    have h0:=hcell 0 _ rfl;unfold World.cell? at h0
    split at h0
    ·rename_i hb;exact hlt hb
    ·cases h0
   refine⟨i,rfl,hil,?_⟩;refine⟨ze kids[i] q2 c2,rfl,hcell,hbs,?_⟩;refine zl (X:=X) (v := .agg (ze kids[i] q2 c2).toArray) k24 rfl rfl rfl fun Y hbY fY sY=>?_;have hY:ChT Q w kb l lets m w.heap.size (.mk k nq kids) (some ⟨b,o,none⟩) cap Y:=hX.grown hQ (hX.p.below hbY) (zh hbY);refine⟨ze kids[i] q2 c2,rfl,za fY,hlt fY,?_⟩;refine cmo (ih kids[i] (gM hil) m q2 c2 Y hm hY.p hnl (hk2.kept hbY)) ?_;have hmono:=zfe lets m kids[i];rw [Jo hil,chkL] at hR;rcases hck:chkT lets m kids[i] with ⟨b2,m2⟩;rw [hck] at hR hmono;rintro e Z ⟨rfl,hZ,gZ⟩;dsimp only at hZ hmono ⊢;have hZZ:=hY.grown hQ hZ gZ;refine biE (fun hb=>?_) fun hb=>?_
   ·have hb:(!b2)=true:=hb;have hb:b2=false:=(by simpa using hb);subst hb;have hR:R=(false,m2):=hR;exact⟨rb (Gw Prod.fst hR).symm,by rw [hR];exact hZ,hZZ.o⟩
   ·have hb:(!b2)=false:=hb;have hb:b2=true:=(by simpa using hb);subst hb;refine nxI (by omega) ?_;exact⟨(i+1,m2),(cvE rfl rfl),⟨hZZ,hil,hmono.2 rfl,hR⟩,by dsimp only;omega⟩
  ·have hc:¬ (i:Int)<(kids.length:Int):=dF hc;rw [JA (by omega),chkL] at hR;exact⟨m,⟨.nil,rfl⟩,hX.p,hX.o,hR⟩
 clear hX hR;rintro m X ⟨hX,gX,hR⟩;exact⟨rb (Gw Prod.fst hR).symm,by rw [hR];exact hX,gX⟩
theorem zp8 (hQ:∀ b,Q b->b≠kb):∀ t,zud kb l lets Q t
 | .mk k nq kids=>ztQ hQ fun x hx=>zp8 hQ x
end
structure LnB (w0 w:Wd) (kb l cb:Nat) (lets checks:Bs->Bool) (n:Nat) (X:Wd):Prop where
 p:ChkB kb l lets n X
 c:MapF zbn X cb (zef checks)
 b:Bw w0 X
 o:Oth kb l l w X
 lo:w0.heap.size<=kb/\w0.heap.size<=l/\w0.heap.size<=w.heap.size
 hi:kb<w.heap.size/\l<w.heap.size/\w.heap.size<=cb
section
variable {w0 w X Y:Wd} {kb l cb n m:Nat} {lets checks:Bs->Bool}
theorem LnB.grown (h:LnB w0 w kb l cb lets checks n X) (hY:ChkB kb l lets m Y) (g:X.grownBy Y (some kb)):LnB w0 w kb l cb lets checks m Y:=by
 have h1:=h.lo;have h2:=h.hi;refine⟨hY,h.c.same (g.block _ (jN h.c) (by simp;omega)),h.b.trans (zo g h.b.size h1.1),h.o.trans (.of_grown g),h1,h2⟩
theorem LnB.below (h:LnB w0 w kb l cb lets checks n X) (hb:Bw X Y):LnB w0 w kb l cb lets checks n Y :=
 h.grown (h.p.below hb) (zh hb)
theorem LnB.setL (h:LnB w0 w kb l cb lets checks n X) (nq:Bs) {K:Wd->Prop} (k:∀ Y,LnB w0 w kb l cb (zdb lets nq) checks n Y->X.grownBy Y (some l)->K Y) :
  SatR ((Instr.mapUpdate 105 (.map (some l)) (zx nq) (.bool true)).run PG X) fun _ w'=>K w':=by
 obtain⟨o,hr,hm⟩:=qq zjB Tryz.underlying105 h.p.lm nq (.bool true);have h1:=h.lo;have h2:=h.hi;have h3:=h.p.ne;have gr:=zdO X l o;exact SatR.mk hr (k _ ⟨⟨(gr.block _ (hlt h.p.f) (by simp;omega)).trans h.p.f,by rw [zeD] at hm;exact hm,h3,h.p.og,h.p.ol,h.p.glob.grown h.p.ol gr⟩,h.c.same (gr.block _ (jN h.c) (by simp;omega)),h.b.trans (zo gr h.b.size h1.2.1),h.o.trans ⟨gr.os,gr.tape,gr.output,gr.size,fun j hj _ hn _=>gr.block j hj (by simp;omega)⟩,h1,h2⟩ gr)
theorem LnB.setC (h:LnB w0 w kb l cb lets checks n X) (nq:Bs) {K:Wd->Prop} (k:∀ Y,LnB w0 w kb l cb lets (zdb checks nq) n Y->X.grownBy Y (some cb)->K Y) :
  SatR ((Instr.mapUpdate 105 (.map (some cb)) (zx nq) (.bool true)).run PG X) fun _ w'=>K w':=by
 obtain⟨o,hr,hm⟩:=qq zjB Tryz.underlying105 h.c nq (.bool true);have h1:=h.lo;have h2:=h.hi;have h3:=h.p.ne;have h4:=h.p.og;have gr:=zdO X cb o;exact SatR.mk hr (k _ ⟨⟨(gr.block _ (hlt h.p.f) (by simp;omega)).trans h.p.f,h.p.lm.same (gr.block _ (jN h.p.lm) (by simp;omega)),h3,h4,h.p.ol,h.p.glob.grown (by omega) gr⟩,by rw [zeD] at hm;exact hm,h.b.trans (zo gr h.b.size (by omega)),h.o.then (zo gr h.o.size (by omega)),h1,h2⟩ gr)
theorem zrn {ls:List LineD} {p:OA} {cap:Nat} (hM:LinsM (fun _=>True) w0 p ls) (hlen:ls.length<=140737488351232) (hB:ChkB kb l lets n w) (hn:n<=400) (hb:Bw w0 w) (h1:w0.heap.size<=kb) (h2:w0.heap.size<=l) :
  Calls PG 91 #[At0 kb,.slice p ls.length cap] w fun e w'=>∃ lets' m,e = .returned (.bool (decide (ls.length<=40)&&(ql lets (fun _=>false) n ls).1))/\(ls.length<=40->(ql lets (fun _=>false) n ls).1=true->lets'=(ql lets (fun _=>false) n ls).2)/\ChkB kb l lets' m w'/\Oth kb l l w w'/\Bw w0 w':=by
 refine zU 54 [At0 kb,.slice p ls.length cap] (.s .p (.c .p (.s .p (.s (.s .p (.b (.l (.s .p (.s .p (.s (.b (.c .p (.c .p (.s .p (.c .p (.c .p .p)))))) .p)))))) .p)))) Tryz.func91 ?_;have hkb:=hB.lt;have hll:=jN hB.lm;obtain⟨rows,hrl,zbT,hrk,_⟩:=hM;have hrn:rows.length=ls.length:=by rw [<- hrl,QS]
 refine⟨Nat,fun cb=>⟨[(0,At0 kb),(1,.slice p ls.length cap),(5,.map (some cb))],[]⟩,fun cb X=>LnB w0 w kb l cb lets (fun _=>false) n X,?_,?_⟩
 ·refine⟨Value.map (some w.heap.size),w.alloc (.map #[] 0),rfl,?_⟩;have m3:MapF (key:=zbn) (w.alloc (.map #[] 0)) w.heap.size (fun (_:Bs)=>none):=MapF.new;exact⟨w.heap.size,(cvE rfl rfl),hB.below (zba _ _),m3,hb.trans ((zba w (.map #[] 0)).mono hb.size),.of_below (zba _ _),⟨h1,h2,hb.size⟩,hkb,hll,Gh _⟩
 rintro cb X hX;refine biE (fun h3=>?_) fun h3=>?_
 ·have h3:(40:Int)<(ls.length:Int):=dT h3;exact⟨lets,n,rb (by rw [Ul (by omega)];rfl),fun h=>GD h (by omega),hX.p,hX.o,hX.b⟩
 have h3:¬ (40:Int)<(ls.length:Int):=dF h3;obtain⟨R,hR⟩:=nm (ql lets (fun _=>false) n ls);rw [<- hR,Ux (p:=ls.length<=40) (by omega),UD];have fin:∀ {Z:Wd} {lets2 checks2:Bs->Bool} {m:Nat} {lets3:Bs->Bool},LnB w0 w kb l cb lets2 checks2 m Z->R=(false,lets3)->∃ lets' m,Ending.returned (.bool false) = .returned (.bool R.1)/\(ls.length<=40->R.1=true->lets'=R.2)/\ChkB kb l lets' m Z/\Oth kb l l w Z/\Bw w0 Z:=fun {Z lets2 checks2 m lets3} hZ hR =>
  ⟨lets2,m,rb (Gw Prod.fst hR).symm,(fun _ h=>by rw [hR] at h;cases h),hZ.p,hZ.o,hZ.b⟩
 refine⟨Nat×(Bs->Bool)×(Bs->Bool)×Nat,fun y=>⟨[(0,At0 kb),(5,.map (some cb)),(13,.slice p ls.length cap),(14,i64 (ls.length:Nat)),(15,.int .i64 (y.1:Nat))],[]⟩,fun y X=>LnB w0 w kb l cb y.2.1 y.2.2.1 y.2.2.2 X/\y.1<=ls.length/\y.2.2.2<=400/\R=ql y.2.1 y.2.2.1 y.2.2.2 (ls.drop y.1),fun y=>ls.length-y.1,(0,lets,fun _=>false,n),(cvE rfl rfl),⟨hX,Gj _,hn,hR⟩,?_⟩;clear hX hR;rintro⟨i,lets,checks,n⟩ X ⟨hX,hi,hn,hR⟩;dsimp only at hX hi hn hR ⊢;refine biE (fun hc=>?_) fun hc=>?_
 ·have hc:(i:Int)<(ls.length:Int):=dT hc;have hil:i<ls.length:=by omega
  have hir:i<rows.length:=by omega
  obtain⟨x,hx⟩:=nm (ls[i]);have hxr:rows[i].1=x:=by
   rw [hx];have:(rows.map (·.1))[i]?=ls[i]?:=by rw [hrl]
   rw [KW,gE hir,gE hil] at this;exact Ui this
  rw [Jo hil,<- hx] at hR;rw [ql] at hR;obtain⟨bk,o,hp,hbk,hcl⟩:=zbT.at hir;subst hp;obtain⟨k1,k2,k3,k4⟩:=hrk rows[i] (gM hir);have hcell:zq w0 ⟨bk,o+i*5,none⟩ (zA rows[i].1.kind rows[i].1.name rows[i].1.term rows[i].2.1 rows[i].2.2):=hcl i hir;rw [hxr] at hcell k1 k2 k3 k4;obtain⟨q,hq⟩:=nm (rows[i].2.1);obtain⟨cp,hcp⟩:=nm (rows[i].2.2);rw [<- hq,<- hcp] at hcell;rw [<- hq] at k4;have kd:KidsT (fun b=>b<w0.heap.size) w0 q x.term.kids:=k4.there.weak fun b hb=>hb.2;have kids:∀ {Z:Wd},Bw w0 Z->KidsT (fun b=>b<w0.heap.size) Z q x.term.kids:=fun {Z} hZ=>kd.by fun b cs ty fr hb hc=>hZ.block b hb
  clear k4 zbT hrk hcl;refine⟨Nat,fun b7=>⟨[(0,At0 kb),(5,.map (some cb)),(7,At0 b7),(13,.slice (some ⟨bk,o,none⟩) ls.length cap),(14,i64 (ls.length:Nat)),(15,.int .i64 (i:Nat))],[]⟩,fun b7 Y=>LnB w0 w kb l cb lets checks n Y/\Y.heap[b7]?=some (.cells (zA x.kind x.name x.term q cp).toArray 49 (0,0))/\w.heap.size<=b7/\b7≠cb,?_,?_⟩
  ·refine⟨i,rfl,hil,zA x.kind x.name x.term q cp,rfl,ja hX.b hbk hcell,nL hbk hX.b.size,zl (X:=X) (v := .agg (zA x.kind x.name x.term q cp).toArray) k49 rfl rfl rfl fun Y hbY fY sY=>?_⟩;have:=jN hX.c;exact⟨X.heap.size,(cvE rfl rfl),hX.below hbY,fY,hX.o.size,by omega⟩
  clear hX X hcell;rintro b7 X ⟨hX,fx,hb7,hb7c⟩;have hnl:x.name.length<=140737488351232:=k2;refine⟨Nat,fun m=>⟨[(0,At0 kb),(5,.map (some cb)),(7,At0 b7),(13,.slice (some ⟨bk,o,none⟩) ls.length cap),(14,i64 (ls.length:Nat)),(15,.int .i64 (i:Nat))],[]⟩,fun m Y=>LnB w0 w kb l cb lets checks m Y/\Y.heap[b7]?=some (.cells (zA x.kind x.name x.term q cp).toArray 49 (0,0))/\m<=400/\¬ (x.kind > 3\/zcx x.name=false)/\chkT lets n x.term=(true,m),?_,?_⟩
  ·refine⟨_,zc (za fx) (i:=0) rfl,?_⟩;have bad:(x.kind > 3\/zcx x.name=false)->R=(false,lets):=fun h=>by rw [hR,GC h]
   refine biE (fun h4=>?_) fun h4=>?_
   ·have h4:(3:Int)<(x.kind:Int):=dT h4;exact brT (brT (fin hX (bad (.inl (by omega)))))
   have h4:¬ (3:Int)<(x.kind:Int):=dF h4;refine⟨_,zc (za fx) (i:=1) rfl,cmo (zpC x.name hnl X hX.p.glob) ?_⟩;rintro e _ ⟨rfl,rfl⟩;refine biE (fun h5=>?_) fun h5=>?_
   ·have h5:(!zcx x.name)=true:=h5;exact brT (fin hX (bad (.inr (by simpa using h5))))
   have h5:(!zcx x.name)=false:=h5;have h5:zcx x.name=true:=by simpa using h5
   have hgood:¬ (x.kind > 3\/zcx x.name=false):=by rintro (h | h);omega;rw [h5] at h;cases h
   rw [GB hgood] at hR;have ht:zq X ⟨b7,0+2,none⟩ (ze x.term q cp):=q9 (o:=2) (n:=3) fx;refine⟨ze x.term q cp,rfl,ht,hlt fx,?_⟩;have hck:=zp8 (kb:=kb) (l:=l) (lets:=lets) (Q:=fun b=>b<w0.heap.size) (fun b hb=>by have:=hX.lo;omega) x.term n q cp X hn hX.p k3 (kids hX.b);have hmono:=zfe lets n x.term;rcases hce:chkT lets n x.term with ⟨b2,m⟩;rw [hce] at hR hck hmono;refine cmo hck ?_;rintro e Y ⟨rfl,hY,gY⟩;dsimp only at hY hmono ⊢;have hYY:=hX.grown hY gY;have h9:=hX.hi;have fY:=(gY.block _ (hlt fx) (by simp;omega)).trans fx;refine biE (fun h6=>?_) fun h6=>?_
   ·have h6:(!b2)=true:=h6;have h6:b2=false:=(by simpa using h6);subst h6;exact fin hYY hR
   ·have h6:(!b2)=false:=h6;have h6:b2=true:=(by simpa using h6);subst h6;exact⟨m,(cvE rfl rfl),hYY,fY,hmono.2 rfl,hgood,rfl⟩
  clear hX fx X;rintro m X ⟨hX,fx,hm,hgood,hce⟩;rw [GB hgood,hce] at hR;dsimp only at hR;refine⟨Nat,fun nb=>⟨[(0,At0 kb),(5,.map (some cb)),(7,At0 b7),(8,.map (some nb)),(13,.slice (some ⟨bk,o,none⟩) ls.length cap),(14,i64 (ls.length:Nat)),(15,.int .i64 (i:Nat))],[]⟩,fun nb Y=>X=Y/\((x.kind=0/\nb=l/\j7 x.name=false)\/(x.kind≠0/\nb=cb)),?_,?_⟩
  ·refine⟨_,zc (za fx) (i:=0) rfl,biE (fun h4=>?_) fun h4=>?_⟩
   ·have h4:(x.kind:Int)=0:=dT h4;rw [GC (by omega)] at hR;refine⟨_,zc (za hX.p.f) (i:=0) rfl,_,zc (za fx) (i:=1) rfl,cmo (zgn x.name X) ?_⟩;rintro e _ ⟨rfl,rfl⟩;refine biE (fun h5=>?_) fun h5=>?_
    ·have h5:j7 x.name=true:=h5;rw [h5,Bool.true_or,GC rfl] at hR;exact fin hX hR
    ·have h5:j7 x.name=false:=h5;exact⟨l,(cvE rfl rfl),rfl,.inl ⟨by omega,rfl,h5⟩⟩
   ·have h4:¬ (x.kind:Int)=0:=dF h4;exact⟨cb,(cvE rfl rfl),rfl,.inr ⟨by omega,rfl⟩⟩
  rintro nb _ ⟨rfl,hnb⟩;refine⟨Unit,fun _=>⟨[(0,At0 kb),(5,.map (some cb)),(7,At0 b7),(8,.map (some nb)),(13,.slice (some ⟨bk,o,none⟩) ls.length cap),(14,i64 (ls.length:Nat)),(15,.int .i64 (i:Nat))],[]⟩,fun nb Y=>X=Y/\((x.kind=0/\lets x.name=false)\/(x.kind≠0/\checks x.name=false)),?_,?_⟩
  ·refine⟨_,zc (za fx) (i:=1) rfl,?_⟩;obtain⟨gf,hm8,hgf⟩:∃ gf:Bs->Bool,MapF zbn X nb (zef gf)/\((x.kind=0/\gf=lets/\j7 x.name=false)\/(x.kind≠0/\gf=checks)):=by
    rcases hnb with ⟨e1,rfl,e3⟩ | ⟨e1,rfl⟩
    ·exact⟨lets,hX.p.lm,.inl ⟨e1,rfl,e3⟩⟩
    ·exact⟨checks,hX.c,.inr ⟨e1,rfl⟩⟩
   refine⟨_,fun w2 hb=>zdr (hm8.below hb) x.name,biE (fun h5=>?_) fun h5=>?_⟩
   ·have h5:gf x.name=true:=h5;rcases hgf with ⟨e1,rfl,e3⟩ | ⟨e1,rfl⟩
    ·rw [GC e1,h5,Bool.or_true,GC rfl] at hR;exact fin hX hR
    ·rw [GB e1,GC h5] at hR;exact fin hX hR
   ·have h5:gf x.name=false:=h5;refine⟨(),(cvE rfl rfl),rfl,?_⟩;rcases hgf with ⟨e1,rfl,e3⟩ | ⟨e1,rfl⟩
    ·exact .inl ⟨e1,h5⟩
    ·exact .inr ⟨e1,h5⟩
  rintro _ _ ⟨rfl,hfr⟩;refine⟨_,zc (za fx) (i:=1) rfl,?_⟩;rcases hnb with ⟨e1,rfl,e3⟩ | ⟨e1,rfl⟩
  ·have hf:lets x.name=false:=by rcases hfr with h | h;exact h.2;exact GD e1 h.1
   rw [GC e1,e3,hf,UC,GB Kv] at hR;exact hX.setL x.name fun Y hY _=>nxI (by omega) ⟨(i+1,zdb lets x.name,checks,m),(cvE rfl rfl),⟨hY,hil,hm,hR⟩,by dsimp only;omega⟩
  ·have hf:checks x.name=false:=by rcases hfr with h | h;exact GD h.1 e1;exact h.2
   rw [GB e1,hf,GB Kv] at hR;exact hX.setC x.name fun Y hY _=>nxI (by omega) ⟨(i+1,lets,zdb checks x.name,m),(cvE rfl rfl),⟨hY,hil,hm,hR⟩,by dsimp only;omega⟩
 ·have hc:¬ (i:Int)<(ls.length:Int):=dF hc;rw [JA (by omega),ql] at hR;exact⟨lets,n,rb (Gw Prod.fst hR).symm,(fun _ _=>by rw [hR]),hX.p,hX.o,hX.b⟩
end
theorem zhD (s:Bs):Go.Lib.strCells (bs s)=s.flatMap zO.enc:=by
 have e1:Go.Lib.strCells (bs s)=s.map u8:=rfl;rw [e1]
 induction s with
 | nil=>rfl
 | cons a r ih=>rw [KU,<- ih rfl];rfl
theorem zsa {w:Wd} {t u ty B cap:Nat} {p:OA} {l:Bs} {iT:TI} (hu:Tryz.prog.underlying t=some (.slice 5)) (hs:Tryz.prog.underlying u=some .string) (hT:TIok PG 5 iT) (hz:iT.zero=some [.int .u8 0]) (h1:iT.size=1) (hby:iT.bytes=1)
  (ho:OwnS zO 5 B w p cap l) (s:Bs) (hl:l.length+s.length<=1000000000) (hB:B<=w.heap.size) {K:Value->Wd->Prop}
  (k:∀ p' cap' w',OwnS zO 5 B w' p' cap' (l++s)->w.grownBy w' (Value.slice p l.length cap).ownBlock->K (.slice p' (l++s).length cap') w') :
  SatR ((Builtin.append_ #[t,u] ty #[.slice p l.length cap,zx s]).run PG w) K:=by
 obtain⟨⟨inf,hi,hsz,hbb,hzz⟩,_⟩:=hT;obtain⟨zv,hzv,hzc⟩:=hzz _ hz;have hz0:zv = .int .u8 0:=by
  have he:inf.zero=some (.int .u8 0):=by
   have:(Tryz.prog.info? 5).bind (fun i=>i.zero)=some (.int .u8 0):=by kernel_rfl
   rw [hi] at this;exact this
  exact Ui (hzv.symm.trans he)
 subst hz0;obtain⟨v',w',hr,ho',hg,_⟩:=Go.Lib.run_append_own_string (P:=PG) w B t u ty 5 inf hu hs hi hzv (hsz.trans h1) (hbb.trans hby) (.slice p l.length cap) l.length (l.flatMap zO.enc) ho (bs s) (by unfold maxLen;show l.length+s.length<=_;omega) (by show l.length+s.length<=_;omega) hB;have e1:l.flatMap zO.enc++Go.Lib.strCells (bs s)=(l++s).flatMap zO.enc:=by
  rw [Kg,zhD]
 have e2:l.length+(bs s).size=(l++s).length:=by rw [lap];rfl
 rw [e1,e2] at ho';refine SatR.mk hr ?_;rcases ho'.2 with ⟨rfl,h0⟩ | ⟨g,cap',cur,rfl,qI⟩
 ·have:K (.slice none (l++s).length 0) w':=k none 0 w' (by unfold OwnS;rw [h0] at ho' ⊢;exact ho') hg;rw [h0] at this;exact this
 ·exact k _ _ w' ho' hg
structure PrB (wb:Nat) (pr:Pr) (X:Wd):Prop where
 f:∃ q cap,X.heap[wb]?=some (.cells #[.slice q pr.text.length cap,i64 (pr.deep:Nat),i64 (pr.most:Nat)] 113 (0,0))/\OwnS zO 5 (wb+1) X q cap pr.text
 og:3<wb
 glob:GlobK X
structure PrS (wb:Nat) (X Y:Wd):Prop where
 os:Y.os=X.os
 tape:Y.tape=X.tape
 output:Y.output=X.output
 size:X.heap.size<=Y.heap.size
 low:∀ j,j<wb->Y.heap[j]?=X.heap[j]?
 block:∀ (j:Nat) (cs:Array Value) (t:TypeId),j≠wb->t≠5->X.heap[j]?=some (.cells cs t (0,0))->Y.heap[j]?=X.heap[j]?
section
variable {wb tb:Nat} {pr pr2:Pr} {w X Y Z:Wd}
theorem PrS.refl:PrS wb X X:=⟨rfl,rfl,rfl,Gh _,fun _ _=>rfl,fun _ _ _ _ _ _=>rfl⟩
theorem PrS.trans (h:PrS wb X Y) (k:PrS wb Y Z):PrS wb X Z :=
 ⟨k.os.trans h.os,k.tape.trans h.tape,k.output.trans h.output,UX h.size k.size,fun j hj=>(k.low j hj).trans (h.low j hj),fun j cs t h1 h2 h3=>(k.block j cs t h1 h2 ((h.block j cs t h1 h2 h3).trans h3)).trans (h.block j cs t h1 h2 h3)⟩
theorem PrS.of_below (h:Bw X Y) (hw:wb<=X.heap.size):PrS wb X Y :=
 ⟨h.os,h.tape,h.output,h.size,fun j hj=>h.block j (by omega),fun j cs t _ _ hc=>h.block j (hlt hc)⟩
theorem PrS.of_grown (h:X.grownBy Y (some wb)) (hw:wb<=X.heap.size):PrS wb X Y :=
 ⟨h.os,h.tape,h.output,h.size,fun j hj=>h.block j (by omega) (by simp;omega),fun j cs t hn _ hc=>h.block j (hlt hc) (by simp;omega)⟩
theorem PrB.lt (h:PrB wb pr X):wb<X.heap.size:=by
 obtain⟨_,_,f,_⟩:=h.f;exact hlt f
theorem PrB.below (h:PrB wb pr X) (hb:Bw X Y):PrB wb pr Y:=by
 obtain⟨q,cap,f,o⟩:=h.f;exact⟨⟨q,cap,zb hb f,o.below hb⟩,h.og,h.glob.below hb⟩
theorem PrB.num (h:PrB wb pr X) {deep most:Nat} {o:Nat} {v:Value} (ho:o=1/\v=i64 (deep:Nat)/\most=pr.most\/o=2/\v=i64 (most:Nat)/\deep=pr.deep) {K:Wd->Prop} (k:∀ Y,PrB wb { pr with deep:=deep,most:=most } Y->PrS wb X Y->K Y) :
  SatR ((storeVar 3 ⟨wb,o,none⟩ v).run PG X) fun _ w'=>K w':=by
 obtain⟨q,cap,f,ow⟩:=h.f;have hw:=hlt f;have key:∀ Y,Y.heap[wb]?=some (.cells #[.slice q pr.text.length cap,i64 (deep:Nat),i64 (most:Nat)] 113 (0,0))->X.grownBy Y (some wb)->K Y:=fun Y fY gY =>
  k Y ⟨⟨q,cap,fY,ow.kept gY fun gg hg e=>by have h5:wb+1<=gg:=(zy ow hg).1;simp at e;omega⟩,h.og,h.glob.grown h.og gY⟩ (.of_grown gY (by omega))
 rcases ho with ⟨rfl,rfl,rfl⟩ | ⟨rfl,rfl,rfl⟩
 ·exact zw k3 f (o:=1) rfl rfl (by show 1<3;decide) rfl fun Y fY gY _=>key Y fY gY
 ·exact zw k3 f (o:=2) rfl rfl (by show 2<3;decide) rfl fun Y fY gY _=>key Y fY gY
theorem zpr {x y:Int} {T:Array TypeId} {t:TypeId} {w:Wd} {K:Value->Wd->Prop} (k:K (.int .i64 (if x<y then y else x)) w):SatR ((Builtin.max_ T t [Value.int .i64 x,.int .i64 y].toArray).run PG w) K :=
 SatR.mk (v := .int .i64 (if x<y then y else x)) (w':=w) (by simp [Builtin.max_,Builtin.max2]) k
def zlO:List Bs->Nat
 | []=>0
 | s::r=>s.length+zlO r
theorem zob:∀ (l:List Bs) (i:Nat) (h:i<l.length),zlO (l.drop i)=l[i].length+zlO (l.drop (i+1)):=fun l i h=>by
 rw [Jo h,zlO]
def zq4 (pr:Pr) (l:List Bs):Pr:=l.foldl qW pr
theorem zs3 {l:List Bs} {sb:Nat} (h:PrB wb pr X) (hs:X.heap[sb]?=some (.cells (l.map zx).toArray 9 (0,0))) (hne:sb≠wb) (hl:l.length<=10) (hlen:pr.text.length+zlO l<=1000000) :
  Calls PG 95 #[At0 wb,.slice (some ⟨sb,0,none⟩) l.length l.length] X fun e Y=>e = .returned (jT [])/\PrB wb (zq4 pr l) Y/\PrS wb X Y:=by
 refine zI 22 [At0 wb,.slice (some ⟨sb,0,none⟩) l.length l.length] Tryz.func95 ?_;obtain⟨R,hR⟩:=nm (zq4 pr l);rw [<- hR];refine⟨Nat×Pr,fun y=>⟨[(0,At0 wb),(6,.slice (some ⟨sb,0,none⟩) l.length l.length),(7,i64 (l.length:Nat)),(8,.int .i64 (y.1:Nat))],[]⟩,fun y Y=>PrB wb y.2 Y/\PrS wb X Y/\y.1<=l.length/\R=zq4 y.2 (l.drop y.1)/\y.2.text.length+zlO (l.drop y.1)<=1000000,fun y=>l.length-y.1,(0,pr),(cvE rfl rfl),⟨h,.refl,Gj _,hR,hlen⟩,?_⟩;clear hR hlen h;rintro⟨i,pr⟩ Y ⟨hY,sY,hi,hR,hlen⟩;dsimp only at hY hi hR hlen ⊢;have hsY:=(sY.block sb _ _ hne (by decide) hs).trans hs;refine biE (fun hc=>?_) fun hc=>?_
 ·have hc:(i:Int)<(l.length:Int):=dT hc;have hil:i<l.length:=by omega
  refine⟨i,rfl,hil,?_⟩;have hcell:Y.cell? ⟨sb,0+i,none⟩=some (zx l[i]):=zc (za hsY) (by simp [hil]);refine⟨_,by rw [Gi];exact hcell,?_⟩;obtain⟨q,cap,f,ow⟩:=hY.f;have hwY:=hlt f;rw [zob l i hil] at hlen;refine⟨_,zc (za f) (i:=0) rfl,zsa Tryz.underlying72 Tryz.underlying9 k5 rfl rfl rfl ow l[i] (by omega) (by omega) fun q2 c2 V oV gV=>?_⟩;have hwV:(Value.slice q pr.text.length cap).ownBlock≠some wb:=fun e=>by
   have:=(QH ow wb e).1;omega
  have fV:V.heap[wb]?=some (.cells #[.slice q pr.text.length cap,i64 (pr.deep:Nat),i64 (pr.most:Nat)] 113 (0,0)):=(gV.block wb hwY hwV.symm).trans f;refine zw k72 fV (o:=0) (v := .slice q2 (pr.text++l[i]).length c2) rfl rfl (by show 0<3;decide) rfl fun Z fZ gZ _=>?_;have lowV:∀ j,j<=wb->V.heap[j]?=Y.heap[j]?:=fun j hj=>gV.block j (by omega) fun e=>by
   have:=(QH ow j e.symm).1;omega
  have sV:PrS wb Y V:=⟨gV.os,gV.tape,gV.output,gV.size,fun j hj=>lowV j (by omega),fun j cs t hn ht hc=>gV.block j (hlt hc) fun e=>by
   rcases q with _ | a
   ·simp [Value.ownBlock] at e
   ·rcases ow.inv with ⟨h0,_⟩ | ⟨gg,cur,h0,_,hg,_⟩
    ·cases h0
    ·cases h0
     simp [Value.ownBlock] at e;subst e;rw [hg] at hc;simp only [Qb,Obj.cells.injEq] at hc;exact ht hc.2.1.symm⟩
  have hV:GlobK V:=⟨zL (lowV _ (by have:=hY.og;exact UW (KG (by decide) this))) hY.glob.op,zL (lowV _ (by have:=hY.og;exact UW (KG (by decide) this))) hY.glob.st,zL (lowV _ (by have:=hY.og;exact UW (KG (by decide) this))) hY.glob.sg,zL (lowV _ (by have:=hY.og;exact UW (KG (by decide) this))) hY.glob.nd,nL hY.glob.lt gV.size⟩;have hwsz:wb<=V.heap.size:=by have:=gV.size;omega
  refine nxI (by omega) ⟨(i+1,qW pr l[i]),(cvE rfl rfl),⟨⟨⟨q2,c2,fZ,oV.kept gZ fun gg hg e=>by have h5:wb+1<=gg:=(zy oV hg).1;simp at e;omega⟩,hY.og,hV.grown hY.og gZ⟩,sY.trans (sV.trans (.of_grown gZ hwsz)),hil,?_,?_⟩,by dsimp only;omega⟩
  ·rw [hR,Jo hil];rfl
  ·dsimp only;rw [qG];omega
 ·have hc:¬ (i:Int)<(l.length:Int):=dF hc;rw [JA (by omega)] at hR;exact⟨rfl,by rw [hR];exact hY,sY⟩
theorem za5 {l:List Bs} {n:Nat} (h:PrB wb pr X) (hn:l.length=n) (hl:l.length<=10) (hlen:pr.text.length+zlO l<=1000000) :
  Calls PG 95 #[At0 wb,.slice (some ⟨X.heap.size,0,none⟩) n n] (X.alloc (.cells (l.map zx).toArray 9)) fun e Y=>e = .returned (jT [])/\PrB wb (zq4 pr l) Y/\PrS wb X Y:=by
 subst hn;have hw:=h.lt;refine cmo (zs3 (h.below (zba _ _)) (zt X _) (by omega) hl hlen) ?_;rintro e Y ⟨he,hY,sY⟩;exact⟨he,hY,(PrS.of_below (zba X _) (by omega)).trans sY⟩
structure PrX (w:Wd) (wb tb:Nat) (t:Trm) (q:OA) (cap:Nat) (pr:Pr) (X:Wd):Prop where
 p:PrB wb pr X
 x:X.heap[tb]?=some (.cells (ze t q cap).toArray 24 (0,0))
 k:KidsT (fun b=>b<wb) X q t.kids
 o:PrS wb w X
 ne:tb≠wb
theorem PrX.step {t:Trm} {q:OA} {cap:Nat} (h:PrX w wb tb t q cap pr X) (hY:PrB wb pr2 Y) (s:PrS wb X Y):PrX w wb tb t q cap pr2 Y :=
 ⟨hY,(s.block tb _ _ h.ne (by decide) h.x).trans h.x,h.k.by fun b cs ty fr hb hc=>s.low b hb,h.o.trans s,h.ne⟩
def PrC (wb:Nat) (t:Trm):Prop:=∀ (pr:Pr) (q:OA) (cap:Nat) (X:Wd),PrB wb pr X->KidsT (fun b=>b<wb) X q t.kids->pr.text.length+40*nodesT t<=900000->pr.deep+nodesT t<=1000->pr.most<=1000 ->
 Calls PG 50 #[At0 wb,.agg (ze t q cap).toArray] X fun e Y=>e = .returned (jT [])/\PrB wb (prT pr t) Y/\PrS wb X Y
theorem ziR {t:Trm} (hv:VT t) (hT:PrC wb t) {least:Nat} (hl6:least<=6) {q:OA} {cap:Nat} (r:List Trm) (h:PrB wb pr w) (hk:KidsT (fun b=>b<wb) w q t.kids) (hlen:pr.text.length+40*nodesT t+8<=900000) (hd:pr.deep+nodesT t+1<=1000) (hm:pr.most<=1000) :
  Calls PG 96 #[At0 wb,.agg (ze t q cap).toArray,i64 (least:Nat)] w fun e Y=>e = .returned (jT [])/\PrB wb (prHead pr least (t::r)) Y/\PrS wb w Y:=by
 refine zU 56 [At0 wb,.agg (ze t q cap).toArray,i64 (least:Nat)] (.c .p (.s .p (.c .p (.c .p (.c .p (.c .p (.c .p (.c .p .p)))))))) Tryz.func96 ?_;have hw:=h.lt;obtain⟨R,hR⟩:=nm (prHead pr least (t::r));rw [<- hR];rw [prHead] at hR;have hk10:t.kind.toNat<10:=by cases hv;assumption
 refine⟨Unit,fun _=>⟨[(0,At0 wb),(2,i64 (least:Nat)),(4,At0 w.heap.size)],[]⟩,fun _ X=>PrX w wb w.heap.size t q cap pr X,⟨(),(cvE rfl rfl),h.below (zba _ _),zt w _,hk.kept (zba _ _),.of_below (zba _ _) (by omega),by omega⟩,?_⟩;rintro _ X hX;refine⟨_,zc (za hX.x) (i:=0) rfl,t.kind.toNat,rfl,by omega,?_⟩;refine⟨_,by rw [Gi];exact za7 hX.p.glob hk10,?_⟩;have es:zbJ.getD t.kind.toNat 0=zda t.kind.toNat:=by
  have:∀ j:Fin 10,zbJ.getD j.1 0=zda j.1:=by decide
  exact this ⟨_,hk10⟩
 refine⟨Unit,fun _=>⟨[(0,At0 wb),(4,At0 w.heap.size)],[]⟩,fun _ Y=>X=Y/\¬ (zda t.kind.toNat=0\/zda t.kind.toNat ≥ least),?_,?_⟩
 ·have good:(zda t.kind.toNat=0\/zda t.kind.toNat ≥ least)->∃ us:List Value,us.length=3/\zq X ⟨w.heap.size,0,none⟩ us/\w.heap.size<X.heap.size/\Calls PG 50 #[At0 wb,.agg us.toArray] X fun e Y=>e = .returned (jT [])/\PrB wb R Y/\PrS wb w Y:=fun hc=>by
   rw [GC hc] at hR;refine⟨_,rfl,za hX.x,hlt hX.x,cmo (hT pr q cap X hX.p hX.k (by omega) (by omega) (by omega)) ?_⟩;rintro e Y ⟨rfl,hY,sY⟩;exact⟨rfl,by rw [hR];exact hY,hX.o.trans sY⟩
  rw [<- es] at good ⊢;refine biE (fun h1=>?_) fun h1=>?_
  ·have h1:((zbJ.getD t.kind.toNat 0:Nat):Int)=0:=dT h1;refine brT ?_;obtain⟨us,u1,u2,u3,u4⟩:=good (.inl (by omega));refine⟨us,u1,u2,u3,cmo u4 ?_⟩;rintro e Y ⟨rfl,hY,sY⟩;exact⟨rfl,hY,sY⟩
  have h1:¬ ((zbJ.getD t.kind.toNat 0:Nat):Int)=0:=dF h1;refine biE (fun h2=>?_) fun h2=>?_
  ·have h2:(least:Int)<=((zbJ.getD t.kind.toNat 0:Nat):Int):=dT h2;obtain⟨us,u1,u2,u3,u4⟩:=good (.inr (by omega));refine⟨us,u1,u2,u3,cmo u4 ?_⟩;rintro e Y ⟨rfl,hY,sY⟩;exact⟨rfl,hY,sY⟩
  ·have h2:¬ (least:Int)<=((zbJ.getD t.kind.toNat 0:Nat):Int):=dF h2;exact⟨(),(cvE rfl rfl),rfl,by rintro (h | h) <;> omega⟩
 rintro _ _ ⟨rfl,hno⟩;rw [GB hno] at hR;refine⟨Unit,fun _=>⟨[(0,At0 wb),(4,At0 w.heap.size)],[]⟩,fun _ Y=>PrX w wb w.heap.size t q cap { pr with deep:=pr.deep+1 } Y,?_,?_⟩
 ·obtain⟨_,_,f,_⟩:=hX.p.f;exact⟨_,zc (za f) (i:=1) rfl,((pr.deep+1:Nat):Int),(zi (by omega)).trans (by omega),hX.p.num (deep:=pr.deep+1) (most:=pr.most) (.inl ⟨rfl,rfl,rfl⟩) fun Y hY sY=>⟨(),(cvE rfl rfl),hX.step hY sY⟩⟩
 clear hX X;rintro _ X hX;refine⟨Unit,fun _=>⟨[(0,At0 wb),(4,At0 w.heap.size)],[]⟩,fun _ Y=>PrX w wb w.heap.size t q cap { pr with deep:=pr.deep+1,most:=max pr.most (pr.deep+1) } Y,?_,?_⟩
 ·refine DrawE.ord [12] [0,1,2,3,4,5,6,7,8,9,10,11,12] (by kernel_rfl) ?_;have bD:=(Gm X.heap.size X).drew;have hD:=hX.step (hX.p.below bD) (.of_below bD (UW hX.p.lt));obtain⟨_,_,f,_⟩:=hD.p.f;refine⟨_,zc (za f) (i:=2) rfl,?_⟩;refine⟨_,zc (za f) (i:=1) rfl,?_⟩;refine zpr ?_;have emax:(if ((pr.most:Nat):Int)<((pr.deep+1:Nat):Int) then ((pr.deep+1:Nat):Int) else ((pr.most:Nat):Int))=((max pr.most (pr.deep+1):Nat):Int):=by split <;> omega
  exact⟨Gm _ _,hD.p.num (deep:=pr.deep+1) (most:=max pr.most (pr.deep+1)) (.inr ⟨rfl,Gw (Value.int .i64) emax,rfl⟩) fun Y hY sY=>⟨(),(cvE rfl rfl),hD.step hY sY⟩⟩
 clear hX X;rintro _ X hX;obtain⟨p2,hp2⟩:∃ p2:Pr,p2=qW { pr with deep:=pr.deep+1,most:=max pr.most (pr.deep+1) } [40]:=⟨_,rfl⟩;rw [<- hp2] at hR;have t2:p2.text.length=pr.text.length+1:=by rw [hp2,qG];rfl
 have d2:p2.deep=pr.deep+1:=by rw [hp2];rfl
 have m2:p2.most=max pr.most (pr.deep+1):=by rw [hp2];rfl
 have npos:=zfv t;refine⟨Unit,fun _=>⟨[(0,At0 wb),(4,At0 w.heap.size)],[]⟩,fun _ Y=>PrX w wb w.heap.size t q cap p2 Y,?_,?_⟩
 ·refine⟨⟨by decide,by decide,rfl⟩,[zx [40]],rfl,cmo (za5 (l:=[[40]]) hX.p rfl (by decide) (by show pr.text.length+(1+0)<=_;omega)) ?_⟩;rintro e Y ⟨rfl,hY,sY⟩;rw [hp2];exact⟨(),(cvE rfl rfl),hX.step hY sY⟩
 clear hX X;rintro _ X hX;have hle:=zcN t hv p2;refine⟨Unit,fun _=>⟨[(0,At0 wb),(4,At0 w.heap.size)],[]⟩,fun _ Y=>PrX w wb w.heap.size t q cap (prT p2 t) Y,?_,?_⟩
 ·refine⟨_,rfl,za hX.x,hlt hX.x,cmo (hT p2 q cap X hX.p hX.k (by omega) (by omega) (by omega)) ?_⟩;rintro e Y ⟨rfl,hY,sY⟩;exact⟨(),(cvE rfl rfl),hX.step hY sY⟩
 clear hX X;rintro _ X hX;obtain⟨l1,l2,l3,l4⟩:=hle;refine⟨Unit,fun _=>⟨[(0,At0 wb),(4,At0 w.heap.size)],[]⟩,fun _ Y=>PrX w wb w.heap.size t q cap (qW (prT p2 t) [41]) Y,?_,?_⟩
 ·refine⟨⟨by decide,by decide,rfl⟩,[zx [41]],rfl,cmo (za5 (l:=[[41]]) hX.p rfl (by decide) (by show (prT p2 t).text.length+(1+0)<=_;omega)) ?_⟩;rintro e Y ⟨rfl,hY,sY⟩;exact⟨(),(cvE rfl rfl),hX.step hY sY⟩
 clear hX X;rintro _ X hX;obtain⟨_,_,f,_⟩:=hX.p.f;refine⟨_,zc (za f) (i:=1) rfl,?_⟩;have e1:(qW (prT p2 t) [41]).deep=(prT p2 t).deep:=rfl;exact⟨(((prT p2 t).deep-1:Nat):Int),(zi (by rw [e1];omega)).trans (by rw [e1];omega),hX.p.num (deep:=(prT p2 t).deep-1) (most:=(qW (prT p2 t) [41]).most) (.inl ⟨rfl,rfl,rfl⟩) fun Y hY sY=>⟨rfl,by rw [hR];exact hY,hX.o.trans sY⟩⟩
end
section
variable {wb tb:Nat} {pr pr2:Pr} {w X Y Z:Wd}
theorem PrX.kid {t:Trm} {q:OA} {cap:Nat} (h:PrX w wb tb t q cap pr X) {i:Nat} (hi:i<t.kids.length) :
  ∃ b o q2 c2,q=some ⟨b,o,none⟩/\zq X ⟨b,o+i*3,none⟩ (ze t.kids[i] q2 c2)/\b<X.heap.size/\KidsT (fun b=>b<wb) X q2 t.kids[i].kids:=by
 obtain⟨_,b,o,hq,hcl⟩:=h.k.inv;obtain⟨q2,c2,_,_,hc,hk⟩:=hcl i hi;refine⟨b,o,q2,c2,by rcases hq with h | h;omega;exact h,hc,?_,hk⟩;have h0:=hc 0 _ rfl;unfold World.cell? at h0
 split at h0
 ·rename_i hb;exact hlt hb
 ·cases h0
theorem zqQ {α:Type} {l:List α} (h:l.length=2):l=[l[0],l[1]]:=by
 match l,h with
 | [a,b],_=>rfl
theorem zrb {α:Type} {l:List α} (h:l.length=1):l=[l[0]]:=by
 match l,h with
 | [a],_=>rfl
theorem znG {l:List Trm} (h:l.length=2):nodesK l=nodesT l[0]+nodesT l[1]:=by
 match l,h with
 | [a,b],_=>rw [nodesK,nodesK,nodesK];rfl
theorem znH {l:List Trm} (h:l.length=1):nodesK l=nodesT l[0]:=by
 match l,h with
 | [a],_=>rw [nodesK,nodesK];rfl
theorem zs4 {k:UInt8} {nq:Bs} {kids:List Trm} (hv:VT (.mk k nq kids)) (ih:∀ x∈kids,PrC wb x):PrC wb (.mk k nq kids):=by
 intro pr q cap w h hkd hlen hdp hms;refine zU 67 [At0 wb,.agg (ze (.mk k nq kids) q cap).toArray] (.c .p (.s .p (.b (.s .p (.d .p (.s .p (.d .p (.c .p (.d (.c .p .p) (.c .p (.c .p (.c .p .p)))))))))))) Tryz.func50 ?_;obtain⟨hk10,hkl,hnl,hkv⟩:=hv.inv;have hle0:=zcN _ hv pr;obtain⟨R,hR⟩:=nm (prT pr (.mk k nq kids));rw [<- hR] at hle0 ⊢;rw [prT] at hR;rw [nodesT] at hlen hdp;have hw:=h.lt;have nk:∀ m:UInt8,decide ((k.toNat:Int)=(m.toNat:Int))=decide (k=m):=fun m=>qT k m;refine⟨Unit,fun _=>⟨[(0,At0 wb),(3,At0 w.heap.size)],[]⟩,fun _ X=>PrX w wb w.heap.size (.mk k nq kids) q cap pr X,⟨(),(cvE rfl rfl),h.below (zba _ _),zt w _,hkd.kept (zba _ _),.of_below (zba _ _) (by omega),by omega⟩,?_⟩;rintro _ X hX;refine⟨_,zc (za hX.x) (i:=0) rfl,biE (fun h1=>?_) fun h1=>?_⟩
 ·have h1:k=1:=dT ((nk 1).symm.trans h1);rw [GC h1] at hR;refine⟨_,zc (za hX.x) (i:=1) rfl,⟨by decide,by decide,rfl⟩,[zx nq],rfl,cmo (za5 (l:=[nq]) hX.p rfl (by show 1<=10;decide) (by show pr.text.length+(nq.length+0)<=_;omega)) ?_⟩;rintro e Y ⟨rfl,hY,sY⟩;exact⟨rfl,by rw [hR];exact hY,hX.o.trans sY⟩
 have h1:k≠1:=dF ((nk 1).symm.trans h1);rw [GB h1] at hR;refine biE (fun h9=>?_) fun h9=>?_
 ·have h9:k=9:=dT ((nk 9).symm.trans h9);rw [GC h9] at hR;refine⟨_,zc (za hX.x) (i:=1) rfl,⟨by decide,by decide,rfl⟩,[zx [91],zx nq,zx [93]],rfl,cmo (za5 (l:=[[91],nq,[93]]) hX.p rfl (by show 3<=10;decide) (by show pr.text.length+(1+(nq.length+(1+0)))<=_;omega)) ?_⟩;rintro e Y ⟨rfl,hY,sY⟩;exact⟨rfl,by rw [hR];exact hY,hX.o.trans sY⟩
 have h9:k≠9:=dF ((nk 9).symm.trans h9);rw [GB h9] at hR;refine⟨Bool,fun b=>⟨[(0,At0 wb),(3,At0 w.heap.size),(47,.bool b)],[]⟩,fun b Y=>X=Y/\(b=true->k=6\/k=7\/k=8)/\(b=false->¬ (k=6\/k=7\/k=8)),?_,?_⟩
 ·refine biE (fun h6=>?_) fun h6=>?_
  ·have h6':k=6:=dT ((nk 6).symm.trans h6);exact⟨true,⟨.cons rfl (.cons rfl (.cons (Gw (fun b=>some (Value.bool b)) h6) .nil)),rfl⟩,rfl,fun _ => .inl h6',fun h=>GD h (by decide)⟩
  have h6':k≠6:=dF ((nk 6).symm.trans h6);refine biE (fun h7=>?_) fun h7=>?_
  ·have h7':k=7:=dT ((nk 7).symm.trans h7);exact⟨true,⟨.cons rfl (.cons rfl (.cons (Gw (fun b=>some (Value.bool b)) h7) .nil)),rfl⟩,rfl,fun _ => .inr (.inl h7'),fun h=>GD h (by decide)⟩
  have h7':k≠7:=dF ((nk 7).symm.trans h7);refine⟨decide (k=8),⟨.cons rfl (.cons rfl (.cons (Gw (fun b=>some (Value.bool b)) (nk 8)) .nil)),rfl⟩,rfl,fun h => .inr (.inr (dT h)),fun h=>?_⟩;have h:=dF h;rintro (e | e | e)
  ·exact h6' e
  ·exact h7' e
  ·exact h e
 rintro b _ ⟨rfl,hbt,hbf⟩;refine biE (fun hb=>?_) fun hb=>?_
 ·
  have h68:=hbt hb;rw [GC h68] at hR;have hl1:kids.length=1:=by
   rcases h68 with rfl | rfl | rfl
   all_goals
    have:(kids.length:Int)=1:=hkl;omega
  have hk0:0<(Trm.mk k nq kids).kids.length:=by show 0<kids.length;omega
  obtain⟨bk,o,q2,c2,rfl,hc,hbs,hk2⟩:=hX.kid hk0;have hc:zq X ⟨bk,o+0*3,none⟩ (ze kids[0] q2 c2):=hc;have hk2:KidsT (fun b=>b<wb) X q2 kids[0].kids:=hk2;have em:=zrb hl1;have en:=znH hl1;have hv0:=hkv kids[0] (gM _);have hh:prHead pr 5 kids=prHead pr 5 (kids[0]::[]):=Gw (prHead pr 5) em;refine⟨Unit,fun _=>⟨[(0,At0 wb),(3,At0 w.heap.size)],[]⟩,fun _ Y=>PrX w wb w.heap.size (.mk k nq kids) (some ⟨bk,o,none⟩) cap (prHead pr 5 kids) Y,?_,?_⟩
  ·refine DrawE.ord [8] [0,1,2,3,4,5,6,7,8] (by kernel_rfl) ?_;have bD:=(Gm X.heap.size X).drew;have hD:=hX.step (hX.p.below bD) (.of_below bD (UW hX.p.lt));refine⟨_,zc (za hD.x) (i:=2) rfl,0,rfl,by show 0<kids.length;omega,?_⟩;refine⟨ze kids[0] q2 c2,rfl,zz bD hc,hbs,5,rfl,by decide,?_⟩;refine⟨_,za7 hD.p.glob (k:=5) (by decide),((5:Nat):Int),(zi (by decide)).trans rfl,cmo (ziR hv0 (ih kids[0] (gM _)) (least:=5) (by decide) [] hD.p (hk2.kept bD) (by omega) (by omega) (by omega)) ?_⟩;rintro e Y ⟨rfl,hY,sY⟩;rw [<- hh] at hY;exact⟨(),(cvE rfl rfl),hD.step hY sY⟩
  clear hX hc hbs hk2;rintro _ Y hY;have hhl:=ze5 (fun w=>zcN kids[0] hv0 w) pr 5 [];rw [<- hh] at hhl;have hsl:=zeA k.toNat;refine⟨_,zc (za hY.x) (i:=0) rfl,k.toNat,rfl,by omega,?_⟩;refine⟨_,by rw [Gi];exact zgd hY.p.glob hk10,?_⟩;refine⟨⟨by decide,by decide,rfl⟩,[zx (jL.getD k.toNat [])],rfl,cmo (za5 (l:=[jL.getD k.toNat []]) hY.p rfl (by show 1<=10;decide) (by show (prHead pr 5 kids).text.length+((zeB k.toNat).length+0)<=_;omega)) ?_⟩;rintro e Z ⟨rfl,hZ,sZ⟩;exact⟨rfl,by rw [hR];exact hZ,hY.o.trans sZ⟩
 ·
  have h68:=hbf hb;rw [GB h68] at hR;have hl2:kids.length=2/\2<=k.toNat/\k.toNat<=5:=by
   have key:∀ j:Fin 10,j.1≠1->j.1≠9->j.1≠6->j.1≠7->j.1≠8->js j.1=2/\2<=j.1/\j.1<=5\/js j.1 = -1:=by decide
   have nk:∀ (m:UInt8),k≠m->k.toNat≠m.toNat:=fun m h e=>h (Uj.1 e);rcases key ⟨k.toNat,hk10⟩ (nk 1 h1) (nk 9 h9) (nk 6 (fun e=>h68 (.inl e))) (nk 7 (fun e=>h68 (.inr (.inl e)))) (nk 8 (fun e=>h68 (.inr (.inr e)))) with h | h
   ·have h':js k.toNat=2:=h.1;exact⟨by omega,h.2⟩
   ·have h:js k.toNat = -1:=h;omega
  obtain⟨hl2,hk2',hk5⟩:=hl2;have es:zbJ.getD k.toNat 0=zda k.toNat/\zda k.toNat<=4:=by
   have:∀ j:Fin 10,zbJ.getD j.1 0=zda j.1/\zda j.1<=4:=by decide
   exact this ⟨_,hk10⟩
  obtain⟨es,es4⟩:=es;have em:=zqQ hl2;have en:=znG hl2;have hv0:=hkv kids[0] (gM _);have hv1:=hkv kids[1] (gM _);obtain⟨n,hn⟩:=nm (zda k.toNat);rw [<- hn] at hR es es4;have hh:prHead pr n kids=prHead pr n (kids[0]::[kids[1]]):=Gw (prHead pr n) em;have hhl:=ze5 (fun w=>zcN kids[0] hv0 w) pr n [kids[1]];rw [<- hh] at hhl;have hsl:=zeA k.toNat;obtain⟨a1,a2,a3,a4⟩:=hhl;refine⟨Unit,fun _=>⟨[(0,At0 wb),(3,At0 w.heap.size),(4,i64 (n:Nat))],[]⟩,fun _ Y=>X=Y,?_,?_⟩
  ·refine⟨_,zc (za hX.x) (i:=0) rfl,k.toNat,rfl,by omega,?_⟩;have hsa:=za7 hX.p.glob hk10;rw [es] at hsa;refine⟨_,by rw [Gi];exact hsa,?_⟩;exact⟨(),(cvE rfl rfl),rfl⟩
  rintro _ _ rfl;refine⟨Unit,fun _=>⟨[(0,At0 wb),(3,At0 w.heap.size),(4,i64 (n:Nat))],[]⟩,fun _ Y=>PrX w wb w.heap.size (.mk k nq kids) q cap (prHead pr n kids) Y,?_,?_⟩
  ·have hk0:0<(Trm.mk k nq kids).kids.length:=by show 0<kids.length;omega
   obtain⟨bk,o,q2,c2,rfl,hc,hbs,hk2⟩:=hX.kid hk0;have hc:zq X ⟨bk,o+0*3,none⟩ (ze kids[0] q2 c2):=hc;have hk2:KidsT (fun b=>b<wb) X q2 kids[0].kids:=hk2;refine⟨_,zc (za hX.x) (i:=2) rfl,0,rfl,by show 0<kids.length;omega,?_⟩;refine⟨ze kids[0] q2 c2,rfl,hc,hbs,cmo (ziR hv0 (ih kids[0] (gM _)) (least:=n) (by omega) [kids[1]] hX.p hk2 (by omega) (by omega) (by omega)) ?_⟩;rintro e Y ⟨rfl,hY,sY⟩;rw [<- hh] at hY;exact⟨(),(cvE rfl rfl),hX.step hY sY⟩
  clear hX;rintro _ Y hY;obtain⟨p3,hp3⟩:=nm (qW (qW (qW (prHead pr n kids) [32]) (zeB k.toNat)) [32]);rw [<- hp3] at hR;have t3:p3.text.length=(prHead pr n kids).text.length+1+(zeB k.toNat).length+1:=by rw [hp3,qG,qG,qG];rfl
  have d3:p3.deep=pr.deep:=by rw [hp3];exact a2
  have m3:p3.most=(prHead pr n kids).most:=by rw [hp3];rfl
  refine⟨Unit,fun _=>⟨[(0,At0 wb),(3,At0 w.heap.size),(4,i64 (n:Nat))],[]⟩,fun _ Y=>PrX w wb w.heap.size (.mk k nq kids) q cap p3 Y,?_,?_⟩
  ·refine⟨_,zc (za hY.x) (i:=0) rfl,k.toNat,rfl,by omega,?_⟩;refine⟨_,by rw [Gi];exact zgd hY.p.glob hk10,?_⟩;refine⟨⟨by decide,by decide,rfl⟩,[zx [32],zx (jL.getD k.toNat []),zx [32]],rfl,cmo (za5 (l:=[[32],jL.getD k.toNat [],[32]]) hY.p rfl (by show 3<=10;decide) (by show (prHead pr n kids).text.length+(1+((zeB k.toNat).length+(1+0)))<=_;omega)) ?_⟩;rintro e Z ⟨rfl,hZ,sZ⟩;have hZ:PrB wb p3 Z:=by rw [hp3];exact hZ
   exact⟨(),(cvE rfl rfl),hY.step hZ sZ⟩
  clear hY Y;rintro _ Y hY;have hk1:1<(Trm.mk k nq kids).kids.length:=by show 1<kids.length;omega
  obtain⟨bk,o,q2,c2,rfl,hc,hbs,hk2⟩:=hY.kid hk1;have hc:zq Y ⟨bk,o+1*3,none⟩ (ze kids[1] q2 c2):=hc;have hk2:KidsT (fun b=>b<wb) Y q2 kids[1].kids:=hk2;refine⟨_,zc (za hY.x) (i:=2) rfl,1,rfl,by show 1<kids.length;omega,?_⟩;refine⟨ze kids[1] q2 c2,rfl,hc,hbs,nxI (by omega) (cmo (ziR hv1 (ih kids[1] (gM _)) (least:=n+1) (by omega) [] hY.p hk2 (by omega) (by omega) (by omega)) ?_)⟩;rintro e Z ⟨rfl,hZ,sZ⟩;refine⟨rfl,?_,hY.o.trans sZ⟩;rw [hR,show prTail p3 (n+1) kids=prTail p3 (n+1) [kids[0],kids[1]] from Gw (prTail p3 (n+1)) em,prTail];exact hZ
theorem zmk:∀ t,VT t->PrC wb t
 | .mk k nq kids,hv=>zs4 hv fun x hx=>zmk x (hv.inv.2.2.2 x hx)
end
end Go.Proofs.YtnadlhpkpnfmbaaGreatDoor
namespace Go.Proofs.YtnadlhpkpnfmbaaGreatDoor
open Go.Vc
def zcd:List LineD->Nat
 | []=>0
 | x::r=>nodesT x.term+zcd r
theorem znI {s:Bs} (h:zcx s=true):s.length<=16:=by
 unfold zcx at h;rw [bAT,bAT] at h;exact dT h.2.1
theorem zoP {f:Bs->Bool} {nq:Bs} (h:∀ s,f s=true->s.length<=16) (hn:nq.length<=16):∀ s,zdb f nq s=true->s.length<=16:=fun s hs=>by
 unfold zdb at hs;rw [QK] at hs;rcases hs with hs | hs
 ·rw [dT hs];exact hn
 ·exact h s hs
theorem zcg:∀ (ls:List LineD) (lets checks:Bs->Bool) (n:Nat) (lets':Bs->Bool),(∀ s,lets s=true->s.length<=16)->n<=400->ql lets checks n ls=(true,lets') ->
  (∀ x∈ls,x.kind<=3/\x.name.length<=16/\VT x.term)/\n+zcd ls<=400/\(∀ s,lets' s=true->s.length<=16)
 | [],lets,checks,n,lets',hl,hn,h=>by
  rw [ql] at h;refine⟨fun x hx=>?_,by rw [zcd];exact hn,?_⟩
  ·cases hx
  ·rw [<- (Gk h).2];exact hl
 | l::r,lets,checks,n,lets',hl,hn,h=>by
  rw [ql] at h
  split at h
  ·cases h
  ·rename_i hc;have hk:l.kind<=3:=Jn fun h=>hc (.inl (by omega));have hnm:zcx l.name=true:=by
    cases hnb:zcx l.name with
    | true=>rfl
    | false=>exact GD (.inr hnb) hc
   have hnl:=znI hnm
   split at h
   ·cases h
   ·rename_i n2 e;obtain⟨hv,hn2⟩:=zfM lets hl l.term n n2 e;have hm:=(zfe lets n l.term).2 (by rw [e]);rw [e] at hm;have hm:n2<=400:=hm;have fin:∀ {a b:Bs->Bool},(∀ s,a s=true->s.length<=16)->ql a b n2 r=(true,lets')->(∀ x∈l::r,x.kind<=3/\x.name.length<=16/\VT x.term)/\n+zcd (l::r)<=400/\(∀ s,lets' s=true->s.length<=16):=fun {a b} ha hr=>by
     obtain⟨i1,i2,i3⟩:=zcg r a b n2 lets' ha hm hr;refine⟨fun x hx=>?_,by rw [zcd];omega,i3⟩;rcases UJ.1 hx with rfl | hx
     ·exact⟨hk,hnl,hv⟩
     ·exact i1 x hx
    split at h
    ·split at h
     ·cases h
     ·exact fin (zoP hl hnl) h
    ·split at h
     ·cases h
     ·exact fin hl h
end Go.Proofs.YtnadlhpkpnfmbaaGreatDoor
namespace Go.Proofs.YtnadlhpkpnfmbaaGreatDoor
open Go.Vc Go.RowKit Go.Sei
theorem zj3 (k:Nat):(z6.getD k []).length<=11:=by
 rcases Nat.lt_or_ge k 4 with h | h
 ·have:∀ j:Fin 4,(z6.getD j.1 []).length<=11:=by decide
  exact this ⟨k,h⟩
 ·rw [gDe,JJ (by simpa [z6] using h)];decide
theorem znv {l:LineD} (hv:VT l.term) (hn:l.name.length<=16) (w:Pr):(zbP w l).text.length<=w.text.length+24*nodesT l.term+60/\(zbP w l).deep=w.deep/\(zbP w l).most<=max w.most (w.deep+nodesT l.term):=by
 have ho:=zj3 l.kind;unfold zbP;dsimp only
 split
 ·obtain⟨h1,h2,h3,h4⟩:=zcN l.term hv (qW (qW (qW (qW w (z6.getD l.kind [])) [32]) l.name) [32,61,32]);simp only [qG,Qu,QT] at h1 ⊢;exact⟨by omega,h2,h3⟩
 ·obtain⟨h1,h2,h3,h4⟩:=zcN l.term hv (qW (qW w (z6.getD l.kind [])) [32]);simp only [qG,Qu,QT] at h1 ⊢;exact⟨by omega,h2,h3⟩
section
variable {wb lb:Nat} {pr pr2:Pr} {w X Y Z:Wd}
structure PrL (w:Wd) (wb lb:Nat) (ln:LineD) (q:OA) (cap:Nat) (pr:Pr) (X:Wd):Prop where
 p:PrB wb pr X
 x:X.heap[lb]?=some (.cells (zA ln.kind ln.name ln.term q cap).toArray 49 (0,0))
 k:KidsT (fun b=>b<wb) X q ln.term.kids
 o:PrS wb w X
 ne:lb≠wb
theorem PrL.step {x:LineD} {q:OA} {cap:Nat} (h:PrL w wb lb x q cap pr X) (hY:PrB wb pr2 Y) (s:PrS wb X Y):PrL w wb lb x q cap pr2 Y :=
 ⟨hY,(s.block lb _ _ h.ne (by decide) h.x).trans h.x,h.k.by fun b cs ty fr hb hc=>s.low b hb,h.o.trans s,h.ne⟩
theorem znD (hg:GlobK w) {k:Nat} (hk:k<=3):w.cell? ⟨3,0+k,none⟩=some (zx (z6.getD k [])):=by
 refine zc hg.op ?_;have hk:k<z6.length:=by show k<4;omega
 rw [KW,gE hk,gDe,gE hk];rfl
theorem zo7 {x:LineD} (hv:VT x.term) (hn:x.name.length<=16) (hk3:x.kind<=3) {q:OA} {cap:Nat} (h:PrB wb pr w) (hk:KidsT (fun b=>b<wb) w q x.term.kids) (hlen:pr.text.length+40*nodesT x.term+100<=900000) (hd:pr.deep+nodesT x.term<=1000) (hm:pr.most<=1000) :
  Calls PG 92 #[At0 wb,.agg (zA x.kind x.name x.term q cap).toArray] w fun e Y=>e = .returned (jT [])/\PrB wb (zbP pr x) Y/\PrS wb w Y:=by
 refine zU 35 [At0 wb,.agg (zA x.kind x.name x.term q cap).toArray] (.c .p (.c .p (.c (.s .p (.d (.c .p .p) (.c .p .p))) .p))) Tryz.func92 ?_;have hw:=h.lt;have hol:=zj3 x.kind;obtain⟨R,hR⟩:=nm (zbP pr x);rw [<- hR];unfold zbP at hR;dsimp only at hR;refine⟨Unit,fun _=>⟨[(0,At0 wb),(3,At0 w.heap.size)],[]⟩,fun _ X=>PrL w wb w.heap.size x q cap pr X,⟨(),(cvE rfl rfl),h.below (zba _ _),zt w _,hk.kept (zba _ _),.of_below (zba _ _) (by omega),by omega⟩,?_⟩;rintro _ X hX;obtain⟨p1,hp1⟩:=nm (qW (qW pr (z6.getD x.kind [])) [32]);rw [<- hp1] at hR;have t1:p1.text.length=pr.text.length+(z6.getD x.kind []).length+1:=by rw [hp1,qG,qG];rfl
 have d1:p1.deep=pr.deep:=by rw [hp1];rfl
 have m1:p1.most=pr.most:=by rw [hp1];rfl
 refine⟨Unit,fun _=>⟨[(0,At0 wb),(3,At0 w.heap.size)],[]⟩,fun _ X=>PrL w wb w.heap.size x q cap p1 X,?_,?_⟩
 ·refine⟨_,zc (za hX.x) (i:=0) rfl,x.kind,rfl,by omega,?_⟩;refine⟨_,by rw [Gi];exact znD hX.p.glob hk3,?_⟩;refine⟨⟨by decide,by decide,rfl⟩,[zx (z6.getD x.kind []),zx [32]],rfl,cmo (za5 (l:=[z6.getD x.kind [],[32]]) hX.p rfl (by show 2<=10;decide) (by show pr.text.length+((z6.getD x.kind []).length+(1+0))<=_;omega)) ?_⟩;rintro e Y ⟨rfl,hY,sY⟩;have hY:PrB wb p1 Y:=by rw [hp1];exact hY
  exact⟨(),(cvE rfl rfl),hX.step hY sY⟩
 clear hX X;rintro _ X hX;refine⟨Pr,fun _=>⟨[(0,At0 wb)],[]⟩,fun p2 X=>PrB wb p2 X/\PrS wb w X/\R=qW p2 [10]/\p2.text.length<=950000,?_,?_⟩
 ·have ht:∀ {Z:Wd} {pz:Pr},PrL w wb w.heap.size x q cap pz Z->zq Z ⟨w.heap.size,0+2,none⟩ (ze x.term q cap):=fun {Z pz} hZ=>q9 (o:=2) (n:=3) hZ.x;refine⟨_,zc (za hX.x) (i:=0) rfl,biE (fun h1=>?_) fun h1=>?_⟩
  ·have h1:(x.kind:Int)=0:=dT h1;rw [GC (by omega)] at hR;obtain⟨p2,hp2⟩:=nm (qW (qW p1 x.name) [32,61,32]);rw [<- hp2] at hR;have t2:p2.text.length=p1.text.length+x.name.length+3:=by rw [hp2,qG,qG];rfl
   have d2:p2.deep=p1.deep:=by rw [hp2];rfl
   have m2:p2.most=p1.most:=by rw [hp2];rfl
   refine⟨Unit,fun _=>⟨[(0,At0 wb),(3,At0 w.heap.size)],[]⟩,fun _ X=>PrL w wb w.heap.size x q cap p2 X,?_,?_⟩
   ·refine⟨_,zc (za hX.x) (i:=1) rfl,⟨by decide,by decide,rfl⟩,[zx x.name,zx [32,61,32]],rfl,cmo (za5 (l:=[x.name,[32,61,32]]) hX.p rfl (by show 2<=10;decide) (by show p1.text.length+(x.name.length+(3+0))<=_;omega)) ?_⟩;rintro e Y ⟨rfl,hY,sY⟩;have hY:PrB wb p2 Y:=(by rw [hp2];exact hY);exact⟨(),(cvE rfl rfl),hX.step hY sY⟩
   clear hX X;rintro _ X hX;have hle:=zcN x.term hv p2;refine⟨ze x.term q cap,rfl,ht hX,hlt hX.x,cmo (zmk x.term hv p2 q cap X hX.p hX.k (by omega) (by omega) (by omega)) ?_⟩;rintro e Y ⟨rfl,hY,sY⟩;exact⟨prT p2 x.term,(cvE rfl rfl),hY,hX.o.trans sY,hR,by have:=hle.1;omega⟩
  ·have h1:¬ (x.kind:Int)=0:=dF h1;rw [GB (by omega)] at hR;have hle:=zcN x.term hv p1;refine⟨Unit,fun _=>⟨[(0,At0 wb),(3,At0 w.heap.size)],[]⟩,fun _ X=>PrL w wb w.heap.size x q cap (prT p1 x.term) X,?_,?_⟩
   ·refine⟨ze x.term q cap,rfl,ht hX,hlt hX.x,cmo (zmk x.term hv p1 q cap X hX.p hX.k (by omega) (by omega) (by omega)) ?_⟩;rintro e Y ⟨rfl,hY,sY⟩;exact⟨(),(cvE rfl rfl),hX.step hY sY⟩
   clear hX X;rintro _ X hX;have l1:=hle.1;refine⟨_,zc (za hX.x) (i:=1) rfl,⟨by decide,by decide,rfl⟩,[zx [32,97,115,32],zx x.name],rfl,cmo (za5 (l:=[[32,97,115,32],x.name]) hX.p rfl (by show 2<=10;decide) (by show (prT p1 x.term).text.length+(4+(x.name.length+0))<=_;omega)) ?_⟩;rintro e Y ⟨rfl,hY,sY⟩;exact⟨qW (qW (prT p1 x.term) [32,97,115,32]) x.name,(cvE rfl rfl),hY,hX.o.trans sY,hR,by rw [qG,qG];show (prT p1 x.term).text.length+4+x.name.length<=_;omega⟩
 clear hX X;rintro p2 X ⟨hX,sX,hR,hl2⟩;refine⟨⟨by decide,by decide,rfl⟩,[zx [10]],rfl,cmo (za5 (l:=[[10]]) hX rfl (by decide) (by show p2.text.length+(1+0)<=_;omega)) ?_⟩;rintro e Y ⟨rfl,hY,sY⟩;exact⟨rfl,by rw [hR];exact hY,sX.trans sY⟩
def zvn (r:Option (Bs×(Bs->Bool))) (w:Wd) (e:Ending) (w':Wd):Prop :=
 Bw w w'/\(r=none->e = .returned (.tuple #[zx [],.map none,.bool false]))/\∀ x,r=some x->∃ l,e = .returned (.tuple #[zx x.1,.map (some l),.bool true])/\MapF zbn w' l (zef x.2)/\w.heap.size<=l
theorem PrS.below (h:PrS wb X Y) (hw:w.heap.size<=wb):Below w.heap.size X Y:=⟨h.os,h.tape,h.output,h.size,fun j hj=>h.low j (by omega)⟩
theorem zpQ {ls:List LineD} {p:OA} {cap:Nat} (hg:GlobK w) (hM:LinsM (fun _=>True) w p ls) (hlen:ls.length<=140737488351232) :
  Calls PG 48 #[.agg #[.slice p ls.length cap]] w (zvn (ju ls) w):=by
 refine zU 43 [.agg #[.slice p ls.length cap]] (.c .p (.c .p (.c .p (.c .p (.c (.s .p (.b (.l (.s .p (.s .p (.s (.b (.c .p .p)) .p)))))) (.c .p .p)))))) Tryz.func48 ?_;obtain⟨R,hR⟩:=nm (ju ls);rw [<- hR];unfold ju at hR;have hgl:=hg.lt;refine⟨Unit,fun _=>⟨[(1,At0 w.heap.size)],[]⟩,fun _ X=>X.heap[w.heap.size]?=some (.cells #[.slice p ls.length cap] 47 (0,0))/\Bw w X/\X.heap.size=w.heap.size+1,⟨(),(cvE rfl rfl),zt w _,zba _ _,wz _ _⟩,?_⟩;rintro _ X ⟨f1,b1,n1⟩;refine⟨Unit,fun _=>⟨[(1,At0 w.heap.size),(5,At0 (w.heap.size+2))],[]⟩,fun _ X=>X.heap[w.heap.size]?=some (.cells #[.slice p ls.length cap] 47 (0,0))/\Bw w X/\ChkB (w.heap.size+2) (w.heap.size+1) (fun _=>false) 0 X,?_,?_⟩
 ·refine⟨Value.map (some X.heap.size),X.alloc (.map #[] 0),rfl,?_⟩;have m3:MapF (key:=zbn) (X.alloc (.map #[] 0)) X.heap.size (fun (_:Bs)=>none):=MapF.new;obtain⟨Y,e3⟩:=nm (X.alloc (.map #[] 0));have n3:Y.heap.size=w.heap.size+2:=by rw [e3,wz,n1]
  have b3:Bw X Y:=by rw [e3];exact zba _ _
  rw [<- e3] at m3 ⊢;refine⟨[.map (some X.heap.size),i64 0],rfl,?_⟩;have f5:=zt Y (.cells #[.map (some X.heap.size),i64 0] 110);have b5:=zba Y (.cells #[.map (some X.heap.size),i64 0] 110);have bAll:=zst b1 (zst b3 b5);refine⟨(),⟨.cons rfl (.cons ?_ .nil),rfl⟩,?_⟩
  ·show some (At0 Y.heap.size)=_;rw [n3]
  show _/\_;rw [n3] at f5;rw [n1] at f5 b5 m3 bAll ⊢;exact⟨zb b5 (zb b3 f1),bAll,f5,m3.below b5,by omega,by omega,by omega,hg.below bAll⟩
 clear f1 b1 n1 X;rintro _ X ⟨f1,b1,hC⟩;have none_:∀ {Z:Wd},R=none->Bw w Z->zvn R w (.returned (.tuple #[zx [],.map none,.bool false])) Z:=fun {Z} hR hb=>⟨hb,fun _=>rfl,fun x hx=>by rw [hR] at hx;cases hx⟩;refine⟨(Bs->Bool)×Nat,fun _=>⟨[(1,At0 w.heap.size),(5,At0 (w.heap.size+2))],[]⟩,fun y X=>X.heap[w.heap.size]?=some (.cells #[.slice p ls.length cap] 47 (0,0))/\Bw w X/\ChkB (w.heap.size+2) (w.heap.size+1) y.1 y.2 X/\ls.length<=40/\ql (fun _=>false) (fun _=>false) 0 ls=(true,y.1),?_,?_⟩
 ·refine⟨_,zc (za f1) (i:=0) rfl,cmo (zrn (w0:=w) (cap:=cap) hM hlen hC (Gj _) b1 (by omega) (by omega)) ?_⟩;rintro e Y ⟨lets',m,rfl,hl,hY,oY,bY⟩;have fY:=(oY.block _ (hlt f1) (by omega) (by omega) (by omega)).trans f1;refine biE (fun h=>?_) fun h=>?_
  ·have h:(!(decide (ls.length<=40)&&(ql (fun _=>false) (fun _=>false) 0 ls).1))=true:=h;refine none_ ?_ bY;rw [hR];by_cases h4:ls.length > 40
   ·rw [GC h4]
   ·rw [GB h4];rw [Ux (by omega),UD] at h;rcases hc:ql (fun _=>false) (fun _=>false) 0 ls with ⟨b,lets⟩;rw [hc] at h
    cases b with
    | true=>cases h
    | false=>rfl
  ·have h:(!(decide (ls.length<=40)&&(ql (fun _=>false) (fun _=>false) 0 ls).1))=false:=h;have h:(decide (ls.length<=40)&&(ql (fun _=>false) (fun _=>false) 0 ls).1)=true:=by simpa using h
   rw [bAT,dE] at h;refine⟨(lets',m),(cvE rfl rfl),fY,bY,hY,h.1,?_⟩;rw [hl h.1 h.2,<- h.2]
 clear f1 b1 hC X;rintro⟨lets,m⟩ X ⟨f1,b1,hC,h40,hcl⟩;dsimp only at hC hcl ⊢;rw [GB (by omega),hcl] at hR;dsimp only at hR;obtain⟨hval,hnod,hshort⟩:=zcg ls _ _ 0 lets (fun s h=>by cases h) (by decide) hcl;obtain⟨rows,hrl,zbT,hrk,_⟩:=hM;have hrn:rows.length=ls.length:=by rw [<- hrl,QS]
 have hkb:=hC.lt;refine⟨Nat,fun wb=>⟨[(1,At0 w.heap.size),(5,At0 (w.heap.size+2)),(6,At0 wb)],[]⟩,fun wb X=>X.heap[w.heap.size]?=some (.cells #[.slice p ls.length cap] 47 (0,0))/\Bw w X/\ChkB (w.heap.size+2) (w.heap.size+1) lets m X/\PrB wb ⟨[],0,0⟩ X/\w.heap.size+2<wb,?_,?_⟩
 ·exact⟨X.heap.size,(cvE rfl rfl),zb (zba _ _) f1,b1.trans ((zba X _).mono b1.size),hC.below (zba _ _),⟨⟨none,0,zt X _,.nil⟩,by omega,hC.glob.below (zba _ _)⟩,hkb⟩
 clear f1 b1 hC hkb X;rintro wb X ⟨f1,b1,hC,hP,hwb⟩;obtain⟨W,hW⟩:=nm (ls.foldl zbP ⟨[],0,0⟩);rw [<- hW] at hR;refine⟨Unit,fun _=>⟨[(5,At0 (w.heap.size+2)),(6,At0 wb)],[]⟩,fun _ X=>Bw w X/\ChkB (w.heap.size+2) (w.heap.size+1) lets m X/\PrB wb W X,?_,?_⟩
 ·refine⟨_,zc (za f1) (i:=0) rfl,Nat×Pr,fun y=>⟨[(5,At0 (w.heap.size+2)),(6,At0 wb),(18,.slice p ls.length cap),(19,i64 (ls.length:Nat)),(20,.int .i64 (y.1:Nat))],[]⟩,fun y X=>Bw w X/\ChkB (w.heap.size+2) (w.heap.size+1) lets m X/\PrB wb y.2 X/\y.1<=ls.length/\W=(ls.drop y.1).foldl zbP y.2/\y.2.text.length+24*zcd (ls.drop y.1)+60*(ls.length-y.1)<=13000/\y.2.deep=0/\y.2.most<=600,fun y=>ls.length-y.1,(0,⟨[],0,0⟩),(cvE rfl rfl),⟨b1,hC,hP,Gj _,hW,?_,rfl,Gj _⟩,?_⟩
  ·show 0+24*zcd ls+60*(ls.length-0)<=13000;omega
  clear f1 b1 hC hP hW X;rintro⟨i,pr⟩ X ⟨b1,hC,hP,hi,hW,hbd,hdp,hms⟩;dsimp only at hP hi hW hbd hdp hms ⊢;refine biE (fun hc=>?_) fun hc=>?_
  ·have hc:(i:Int)<(ls.length:Int):=dT hc;have hil:i<ls.length:=by omega
   have hir:i<rows.length:=by omega
   obtain⟨x,hx⟩:=nm (ls[i]);have hxr:rows[i].1=x:=by
    rw [hx];have:(rows.map (·.1))[i]?=ls[i]?:=(by rw [hrl]);rw [KW,gE hir,gE hil] at this;exact Ui this
   have hdrop:ls.drop i=x::ls.drop (i+1):=by rw [hx];exact Jo hil
   rw [hdrop] at hW hbd;rw [QR] at hW;rw [zcd] at hbd;obtain⟨v1,v2,v3⟩:=hval x (by rw [hx];exact gM hil);obtain⟨bk,o,hp,hbk,hcl2⟩:=zbT.at hir;subst hp;obtain⟨k1,k2,k3,k4⟩:=hrk rows[i] (gM hir);have hcell:zq w ⟨bk,o+i*5,none⟩ (zA rows[i].1.kind rows[i].1.name rows[i].1.term rows[i].2.1 rows[i].2.2):=hcl2 i hir;rw [hxr] at hcell k4;obtain⟨q,hq⟩:=nm (rows[i].2.1);obtain⟨cp,hcp⟩:=nm (rows[i].2.2);rw [<- hq,<- hcp] at hcell;rw [<- hq] at k4;have kd:KidsT (fun b=>b<w.heap.size) w q x.term.kids:=k4.there.weak fun b hb=>hb.2;refine⟨Nat,fun lb=>⟨[(5,At0 (w.heap.size+2)),(6,At0 wb),(8,At0 lb),(18,.slice (some ⟨bk,o,none⟩) ls.length cap),(19,i64 (ls.length:Nat)),(20,.int .i64 (i:Nat))],[]⟩,fun lb Y=>Bw w Y/\ChkB (w.heap.size+2) (w.heap.size+1) lets m Y/\PrB wb pr Y/\Y.heap[lb]?=some (.cells (zA x.kind x.name x.term q cp).toArray 49 (0,0)),?_,?_⟩
   ·exact⟨i,rfl,hil,zA x.kind x.name x.term q cp,rfl,ja b1 hbk hcell,nL hbk b1.size,zl (X:=X) (v := .agg (zA x.kind x.name x.term q cp).toArray) k49 rfl rfl rfl fun Y hbY fY sY=>⟨X.heap.size,(cvE rfl rfl),(zst b1 hbY),hC.below hbY,hP.below hbY,fY⟩⟩
   clear b1 hC hP hcell X;rintro lb X ⟨b1,hC,hP,fx⟩;refine⟨_,rfl,za fx,hlt fx,?_⟩;have kX:KidsT (fun b=>b<wb) X q x.term.kids:=(kd.by fun b cs ty fr hb hc=>b1.block b hb).weak fun b hb=>by omega
   have hle:=znv v3 v2 pr;refine cmo (zo7 v3 v2 v1 (cap:=cp) hP kX (by omega) (by omega) (by omega)) ?_;rintro e Y ⟨rfl,hY,sY⟩;refine nxI (by omega) ?_;have lw:∀ {j},j<wb->Y.heap[j]?=X.heap[j]?:=fun {j} hj=>sY.low j hj;refine⟨(i+1,zbP pr x),(cvE rfl rfl),⟨b1.trans (sY.below (by omega)),⟨(lw (by omega)).trans hC.f,hC.lm.same (lw (by omega)),hC.ne,hC.og,hC.ol,hY.glob⟩,hY,hil,hW,by dsimp only;omega,by dsimp only;omega,by dsimp only;omega⟩,by dsimp only;omega⟩
  ·have hc:¬ (i:Int)<(ls.length:Int):=dF hc;rw [JA (by omega),List.foldl_nil] at hW;exact⟨(),(cvE rfl rfl),b1,hC,by rw [hW];exact hP⟩
 clear f1 b1 hC hP X;rintro _ X ⟨b1,hC,hP⟩;obtain⟨q,c2,f,ow⟩:=hP.f;refine⟨Unit,fun _=>⟨[(5,At0 (w.heap.size+2)),(6,At0 wb)],[]⟩,fun _ Y=>X=Y/\¬ (W.text.length > 8192\/W.most > 50),?_,?_⟩
 ·refine⟨_,zc (za f) (i:=0) rfl,biE (fun h=>?_) fun h=>?_⟩
  ·have h:(8192:Int)<(W.text.length:Int):=dT h;exact brT (none_ (by rw [hR,GC (.inl (by omega))]) b1)
  have h:¬ (8192:Int)<(W.text.length:Int):=dF h;refine⟨_,zc (za f) (i:=2) rfl,biE (fun h2=>?_) fun h2=>?_⟩
  ·have h2:(50:Int)<(W.most:Int):=dT h2;exact none_ (by rw [hR,GC (.inr (by omega))]) b1
  ·have h2:¬ (50:Int)<(W.most:Int):=dF h2;exact⟨(),(cvE rfl rfl),rfl,by rintro (h | h) <;> omega⟩
 rintro _ _ ⟨rfl,hno⟩;rw [GB hno] at hR;refine DrawE.ord [] [0,1,2,3,4,5,6,7,8,9] (by kernel_rfl) ?_;have bD:=(Gm X.heap.size X).drew;have fD:=zb bD f;have hD:=hC.below bD;have oD:=ow.below bD;refine⟨_,zc (za fD) (i:=0) rfl,_,fun w2 hb=>zp5 oD.row w2 hb,_,zc (za hD.f) (i:=0) rfl,(zst b1 bD),(fun h=>by rw [hR] at h;cases h),fun x hx=>?_⟩;rw [hR] at hx;obtain rfl:=Ui hx;exact⟨w.heap.size+1,rfl,hD.lm,by omega⟩
end
section
variable {w:Wd} {ls:List LineD} {p:OA} {cap:Nat}
theorem zmW (hg:GlobK w) (hM:LinsM (fun _=>True) w p ls) (hlen:ls.length<=140737488351232) :
  CB 35 #[.agg #[.slice p ls.length cap]] w (.tuple #[zx (((ju ls).map (·.1)).getD []),i64 (if (ju ls).isSome then 0 else 2)]):=by
 refine zU 16 [.agg #[.slice p ls.length cap]] (.c .p .p) Tryz.func35 ?_;refine⟨Unit,fun _=>⟨[(1,At0 w.heap.size)],[]⟩,fun _ X=>X.heap[w.heap.size]?=some (.cells #[.slice p ls.length cap] 47 (0,0))/\Bw w X,⟨(),(cvE rfl rfl),zt w _,zba _ _⟩,?_⟩;rintro _ X ⟨f1,b1⟩;have hX:=hM.below b1;refine⟨_,rfl,za f1,hlt f1,cmo (zpQ (cap:=cap) (hg.below b1) hX hlen) ?_⟩;rintro e Y ⟨bY,hno,hyes⟩;have b2:=zst b1 bY
 cases he:ju ls with
 | none =>
  obtain rfl:=hno he;exact brT ⟨rfl,b2⟩
 | some x =>
  obtain⟨l,rfl,_,_⟩:=hyes x he;exact brF ⟨rfl,b2⟩
theorem zl3 (hg:GlobK w) (hM:LinsM (fun _=>True) w p ls) (hlen:ls.length<=140737488351232) :
  CB 28 #[.agg #[.slice p ls.length cap]] w (.bool (ju ls).isSome):=by
 refine zU 13 [.agg #[.slice p ls.length cap]] (.c .p .p) Tryz.func28 ?_;refine⟨Unit,fun _=>⟨[(1,At0 w.heap.size)],[]⟩,fun _ X=>X.heap[w.heap.size]?=some (.cells #[.slice p ls.length cap] 47 (0,0))/\Bw w X,⟨(),(cvE rfl rfl),zt w _,zba _ _⟩,?_⟩;rintro _ X ⟨f1,b1⟩;have hX:=hM.below b1;refine⟨_,rfl,za f1,hlt f1,cmo (zpQ (cap:=cap) (hg.below b1) hX hlen) ?_⟩;rintro e Y ⟨bY,hno,hyes⟩;have b2:=zst b1 bY
 cases he:ju ls with
 | none =>
  obtain rfl:=hno he;exact⟨rfl,b2⟩
 | some x =>
  obtain⟨l,rfl,_,_⟩:=hyes x he;exact⟨rfl,b2⟩
theorem zgg (hg:GlobK w) (s:Bs) (hs:s.length<=140737488351232):Calls PG 45 #[zx s] w fun e w'=>∃ p cap,e = .returned (.agg #[.slice p ((qB s).1.getD []).length cap])/\LinsM (fun b=>w.heap.size<=b) w' p ((qB s).1.getD [])/\((qB s).1.getD []).length<=40/\Bw w w':=by
 refine zU 13 [zx s] (.c .p (.c .p .p)) Tryz.func45 ?_;refine⟨Unit,fun _=>⟨[(0,zx s),(2,At0 w.heap.size)],[]⟩,fun _ X=>X.heap[w.heap.size]?=some (.cells #[.slice none 0 0] 47 (0,0))/\Bw w X,⟨(),(cvE rfl rfl),zt w _,zba _ _⟩,?_⟩;rintro _ X ⟨f1,b1⟩;refine⟨Nat×OA×Nat,fun y=>⟨[(2,At0 w.heap.size),(3,At0 y.1)],[]⟩,fun y X=>X.heap[w.heap.size]?=some (.cells #[.slice none 0 0] 47 (0,0))/\X.heap[y.1]?=some (.cells #[.slice y.2.1 ((qB s).1.getD []).length y.2.2] 47 (0,0))/\LinsM (fun b=>w.heap.size<b) X y.2.1 ((qB s).1.getD [])/\((qB s).1.getD []).length<=40/\Bw w X,?_,?_⟩
 ·refine cmo (zmX (hg.below b1) s hs) ?_;rintro e Y ⟨⟨p,cap,rfl,h40,hM⟩,bY⟩;have fY:=zb bY f1;refine zl (X:=Y) (v := .agg #[.slice p ((qB s).1.getD []).length cap]) k47 rfl rfl rfl fun Z hbZ fZ sZ=>?_;have h0:=hlt f1;have b2:=zst b1 bY;exact⟨(Y.heap.size,p,cap),(cvE rfl rfl),zb hbZ fY,fZ,(hM.below hbZ).weak fun b hb=>by omega,h40,(zst b2 hbZ)⟩
 clear f1 b1 X;rintro⟨tb,p,cap⟩ X ⟨f1,ft,hM,h40,b1⟩;dsimp only at ft hM ⊢;exact⟨_,rfl,za ft,hlt ft,zr (v := .agg #[.slice p ((qB s).1.getD []).length cap]) k47 f1 rfl rfl rfl ⟨[.slice p ((qB s).1.getD []).length cap],rfl,za (zm f1),p,cap,rfl,(hM.by fun b cs ty fr hb hc=>zp (by omega)).weak fun b hb=>by omega,h40,zk b1 (Gh _) _⟩⟩
theorem zi7 (hg:GlobK w) (s:Bs) (hs:s.length<=140737488351232) (er:Int) (at_:Nat):CB 47 #[zx s,i64 er,i64 (at_:Nat)] w (.bool (decide ((qB s).2.2=er)&&(decide ((qB s).2.1=at_)&&decide ((qB s).1.getD []=[])))):=by
 refine zU 30 [zx s,i64 er,i64 (at_:Nat)] (.s .p (.c .p .p)) Tryz.func47 ?_;refine⟨Nat×OA×Nat,fun y=>⟨[(1,i64 er),(2,i64 (at_:Nat)),(7,At0 y.1),(8,i64 ((qB s).2.1:Nat)),(9,i64 (qB s).2.2)],[]⟩,fun y X=>X.heap[y.1]?=some (.cells #[.slice y.2.1 ((qB s).1.getD []).length y.2.2] 47 (0,0))/\Bw w X,?_,?_⟩
 ·refine cmo (zmX hg s hs) ?_;rintro e Y ⟨⟨p,cap,rfl,h40,hM⟩,bY⟩;exact zl (X:=Y) (v := .agg #[.slice p ((qB s).1.getD []).length cap]) k47 rfl rfl rfl fun Z hbZ fZ sZ=>⟨(Y.heap.size,p,cap),(cvE rfl rfl),fZ,(zst bY hbZ)⟩
 rintro⟨tb,p,cap⟩ X ⟨ft,b1⟩;dsimp only at ft ⊢;refine biE (fun h1=>?_) fun h1=>?_
 ·have h1:decide ((qB s).2.2=er)=true:=h1;rw [h1,UD];refine biE (fun h2=>?_) fun h2=>?_
  ·have h2:decide ((qB s).2.1=at_)=true:=zP.symm.trans h2;rw [h2,UD];refine⟨_,zc (za ft) (i:=0) rfl,rb ?_,b1⟩;show decide ((((qB s).1.getD []).length:Int)=0)=_;rw [QJ];constructor
   ·intro h;exact Jf (by omega)
   ·intro h;rw [h];rfl
  ·have h2:decide ((qB s).2.1=at_)=false:=zP.symm.trans h2;exact⟨rb (by rw [h2];rfl),b1⟩
 ·have h1:decide ((qB s).2.2=er)=false:=h1;exact brF ⟨rb (by rw [h1];rfl),b1⟩
end
mutual
def sameT:Trm->Trm->Bool
 | .mk k n l,.mk k2 n2 l2=>decide (k=k2)&&(decide (n=n2)&&(decide (l.length=l2.length)&&sameK l l2))
def sameK:List Trm->List Trm->Bool
 | [],_=>true
 | _::_,[]=>false
 | a::r,b::r2=>sameT a b&&sameK r r2
end
abbrev jS:Nat->Prop:=fun _=>True
theorem KidsT.kid {Q:Nat->Prop} {w:Wd} {q:OA} {l:List Trm} (h:KidsT Q w q l) {i:Nat} (hi:i<l.length) :
  ∃ b o q2 c2,q=some ⟨b,o,none⟩/\zq w ⟨b,o+i*3,none⟩ (ze l[i] q2 c2)/\b<w.heap.size/\l[i].name.length<=140737488351232/\KidsT Q w q2 l[i].kids:=by
 obtain⟨_,b,o,hq,hcl⟩:=h.inv;obtain⟨q2,c2,hn,_,hc,hk⟩:=hcl i hi;refine⟨b,o,q2,c2,by rcases hq with h | h;omega;exact h,hc,?_,hn,hk⟩;have h0:=hc 0 _ rfl;unfold World.cell? at h0
 split at h0
 ·rename_i hb;exact hlt hb
 ·cases h0
section
variable {w:Wd}
theorem zaB (s:Bs):CB 13 #[zx s] w (.agg (ze (.mk 1 s []) none 0).toArray):=by
 refine zU 5 [zx s] (.c .p .p) Tryz.func13 ?_;refine⟨Unit,fun _=>⟨[(0,zx s),(2,At0 w.heap.size)],[]⟩,fun _ X=>X.heap[w.heap.size]?=some (.cells (ze zT none 0).toArray 24 (0,0))/\Bw w X,⟨(),(cvE rfl rfl),zt w _,zba _ _⟩,?_⟩;rintro _ X ⟨f1,b1⟩;exact⟨ze (.mk 1 s []) none 0,rfl,zr (v := .agg (ze (.mk 1 s []) none 0).toArray) k24 f1 rfl rfl rfl ⟨ze (.mk 1 s []) none 0,rfl,za (zm f1),rfl,zk b1 (Gh _) _⟩⟩
theorem zb2 {k:UInt8} {a b:Trm} {q p:OA} {c d:Nat} (hq:KidsT jS w q a.kids) (hp:KidsT jS w p b.kids) (ha:a.name.length<=140737488351232) (hb:b.name.length<=140737488351232) :
  Calls PG 19 #[u8 k,.agg (ze a q c).toArray,.agg (ze b p d).toArray] w fun e w'=>∃ r,e = .returned (.agg (ze (.mk k [] [a,b]) r 2).toArray)/\KidsT jS w' r [a,b]/\Bw w w':=by
 refine zU 12 [u8 k,.agg (ze a q c).toArray,.agg (ze b p d).toArray] (.c .p .p) Tryz.func19 ?_;refine⟨Unit,fun _=>⟨[(0,u8 k),(4,At0 w.heap.size),(5,At0 (w.heap.size+1)),(6,At0 (w.heap.size+2))],[]⟩,fun _ X=>X.heap[w.heap.size]?=some (.cells (ze a q c).toArray 24 (0,0))/\X.heap[w.heap.size+1]?=some (.cells (ze b p d).toArray 24 (0,0))/\X.heap[w.heap.size+2]?=some (.cells (ze zT none 0).toArray 24 (0,0))/\Bw w X/\X.heap.size=w.heap.size+3,?_,?_⟩
 ·obtain⟨W1,e1⟩:=nm (w.alloc (.cells (ze a q c).toArray 24));have n1:W1.heap.size=w.heap.size+1:=by rw [e1];exact wz _ _
  have f1:W1.heap[w.heap.size]?=some (.cells (ze a q c).toArray 24 (0,0)):=by rw [e1];exact zt w _
  have b1:Bw w W1:=by rw [e1];exact zba _ _
  obtain⟨W2,e2⟩:=nm (W1.alloc (.cells (ze b p d).toArray 24));have n2:W2.heap.size=w.heap.size+2:=by rw [e2,wz,n1]
  have f2:W2.heap[w.heap.size+1]?=some (.cells (ze b p d).toArray 24 (0,0)):=by rw [e2,<- n1];exact zt W1 _
  have b2:Bw W1 W2:=by rw [e2];exact zba _ _
  obtain⟨W3,e3⟩:=nm (W2.alloc (.cells (ze zT none 0).toArray 24));have n3:W3.heap.size=w.heap.size+3:=by rw [e3,wz,n2]
  have f3:W3.heap[w.heap.size+2]?=some (.cells (ze zT none 0).toArray 24 (0,0)):=by rw [e3,<- n2];exact zt W2 _
  have b3:Bw W2 W3:=by rw [e3];exact zba _ _
  refine⟨(),⟨.cons rfl (.cons ?_ (.cons ?_ (.cons ?_ .nil))),rfl⟩,?_⟩
  ·rfl
  ·show some (At0 (w.alloc (.cells (ze a q c).toArray 24)).heap.size)=_;rw [wz]
  ·show some (At0 ((w.alloc (.cells (ze a q c).toArray 24)).alloc (.cells (ze b p d).toArray 24)).heap.size)=_;rw [wz,wz]
  ·show _/\_;have key:W3.heap[w.heap.size]?=some (.cells (ze a q c).toArray 24 (0,0))/\W3.heap[w.heap.size+1]?=some (.cells (ze b p d).toArray 24 (0,0))/\W3.heap[w.heap.size+2]?=some (.cells (ze zT none 0).toArray 24 (0,0))/\Bw w W3/\W3.heap.size=w.heap.size+3:=⟨zb b3 (zb b2 f1),zb b3 f2,f3,zst b1 (zst b2 b3),n3⟩;rw [e3,e2,e1] at key;exact key
 rintro _ X ⟨f1,f2,f3,b1,n1⟩;refine⟨_,rfl,za f1,hlt f1,_,rfl,za f2,hlt f2,⟨by decide,by decide,rfl⟩,ze a q c++ze b p d,rfl,ze (.mk k [] [a,b]) (some ⟨X.heap.size,0,none⟩) 2,rfl,?_⟩;have bN:=zba X (.cells (ze a q c++ze b p d).toArray 24);have fN:=zt X (.cells (ze a q c++ze b p d).toArray 24);have f3N:=zb bN f3;refine zr (v := .agg (ze (.mk k [] [a,b]) (some ⟨X.heap.size,0,none⟩) 2).toArray) k24 f3N rfl rfl rfl ?_;have b9:=zk (B:=w.heap.size) ((zst b1 bN)) (by omega:w.heap.size<=w.heap.size+2) (ze (.mk k [] [a,b]) (some ⟨X.heap.size,0,none⟩) 2).toArray;exact⟨ze (.mk k [] [a,b]) (some ⟨X.heap.size,0,none⟩) 2,rfl,za (zm f3N),some ⟨X.heap.size,0,none⟩,rfl,.two (q:=q) (cap:=c) (p:=p) (cp:=d) trivial (za ((zp (by omega)).trans fN)) ha (hq.kept b9) hb (hp.kept b9),b9⟩
structure TwoB (w:Wd) (a b:Trm) (q p:OA) (c d:Nat) (X:Wd):Prop where
 x:X.heap[w.heap.size]?=some (.cells (ze a q c).toArray 24 (0,0))
 y:X.heap[w.heap.size+1]?=some (.cells (ze b p d).toArray 24 (0,0))
 k:KidsT jS X q a.kids
 l:KidsT jS X p b.kids
 b:Bw w X
theorem TwoB.below {a b:Trm} {q p:OA} {c d:Nat} {X Y:Wd} (h:TwoB w a b q p c d X) (hb:Bw X Y):TwoB w a b q p c d Y :=
 ⟨zb hb h.x,zb hb h.y,h.k.kept hb,h.l.kept hb,h.b.trans (hb.mono h.b.size)⟩
def ztY (a b:Trm):Prop:=∀ (q p:OA) (c d:Nat) (w:Wd),KidsT jS w q a.kids->KidsT jS w p b.kids->CB 78 #[.agg (ze a q c).toArray,.agg (ze b p d).toArray] w (.bool (sameT a b))
theorem zsS {k k2:UInt8} {n n2:Bs} {l l2:List Trm} (ih:∀ x∈l,∀ y,ztY x y):ztY (.mk k n l) (.mk k2 n2 l2):=by
 intro q p c d w hq hp;refine zU 46 [.agg (ze (.mk k n l) q c).toArray,.agg (ze (.mk k2 n2 l2) p d).toArray] (.c .p (.c .p .p)) Tryz.func78 ?_;refine⟨Unit,fun _=>⟨[(2,At0 w.heap.size),(3,At0 (w.heap.size+1))],[]⟩,fun _ X=>TwoB w (.mk k n l) (.mk k2 n2 l2) q p c d X,?_,?_⟩
 ·obtain⟨W1,e1⟩:=nm (w.alloc (.cells (ze (.mk k n l) q c).toArray 24));have n1:W1.heap.size=w.heap.size+1:=by rw [e1];exact wz _ _
  have f1:W1.heap[w.heap.size]?=some (.cells (ze (.mk k n l) q c).toArray 24 (0,0)):=by rw [e1];exact zt w _
  have b1:Bw w W1:=by rw [e1];exact zba _ _
  obtain⟨W2,e2⟩:=nm (W1.alloc (.cells (ze (.mk k2 n2 l2) p d).toArray 24));have f2:W2.heap[w.heap.size+1]?=some (.cells (ze (.mk k2 n2 l2) p d).toArray 24 (0,0)):=by rw [e2,<- n1];exact zt W1 _
  have b2:Bw W1 W2:=by rw [e2];exact zba _ _
  refine⟨(),⟨.cons rfl (.cons ?_ .nil),rfl⟩,?_⟩
  ·show some (At0 (w.alloc (.cells (ze (.mk k n l) q c).toArray 24)).heap.size)=_;rw [wz]
  ·have b12:=zst b1 b2;have key:TwoB w (.mk k n l) (.mk k2 n2 l2) q p c d W2:=⟨zb b2 f1,f2,hq.kept b12,hp.kept b12,b12⟩;rw [e2,e1] at key;exact key
 rintro _ X hX;have hl1:l.length<=140737488351232:=hq.inv.1;have hl2:l2.length<=140737488351232:=hp.inv.1;rw [sameT];refine⟨Unit,fun _=>⟨[(2,At0 w.heap.size),(3,At0 (w.heap.size+1))],[]⟩,fun _ Y=>X=Y/\k=k2/\n=n2/\l.length=l2.length,?_,?_⟩
 ·refine⟨_,zc (za hX.x) (i:=0) rfl,_,zc (za hX.y) (i:=0) rfl,biE (fun h1=>?_) fun h1=>?_⟩
  ·have h1:(!decide ((k.toNat:Int)=(k2.toNat:Int)))=true:=h1;rw [qT] at h1;exact brT (brT ⟨rb (by rw [show decide (k=k2)=false by simpa using h1];rfl),hX.b⟩)
  have h1:(!decide ((k.toNat:Int)=(k2.toNat:Int)))=false:=h1;rw [qT] at h1;have h1:k=k2:=by simpa using h1
  rw [Ux h1,UD];refine⟨_,zc (za hX.x) (i:=1) rfl,_,zc (za hX.y) (i:=1) rfl,_,fun w=>zeQ _ _ n n2 w,biE (fun h2=>?_) fun h2=>?_⟩
  ·have h2:(!decide (n=n2))=true:=h2;exact brT ⟨rb (by rw [show decide (n=n2)=false by simpa using h2];rfl),hX.b⟩
  have h2:(!decide (n=n2))=false:=h2;have h2:n=n2:=by simpa using h2
  rw [Ux h2,UD];refine⟨_,zc (za hX.x) (i:=2) rfl,_,zc (za hX.y) (i:=2) rfl,biE (fun h3=>?_) fun h3=>?_⟩
  ·have h3:(!decide ((l.length:Int)=(l2.length:Int)))=true:=h3;rw [zP] at h3;exact⟨rb (by rw [show decide (l.length=l2.length)=false by simpa using h3];rfl),hX.b⟩
  ·have h3:(!decide ((l.length:Int)=(l2.length:Int)))=false:=h3;rw [zP] at h3;exact⟨(),(cvE rfl rfl),rfl,h1,h2,by simpa using h3⟩
 rintro _ _ ⟨rfl,h1,h2,h3⟩;rw [Ux h1,Ux h2,Ux h3,UD,UD,UD];obtain⟨R,hR⟩:=nm (sameK l l2);rw [<- hR];refine⟨_,zc (za hX.x) (i:=2) rfl,Nat,fun i=>⟨[(2,At0 w.heap.size),(3,At0 (w.heap.size+1)),(28,.slice q l.length c),(29,i64 (l.length:Nat)),(30,.int .i64 (i:Nat))],[]⟩,fun i X=>TwoB w (.mk k n l) (.mk k2 n2 l2) q p c d X/\i<=l.length/\R=sameK (l.drop i) (l2.drop i),fun i=>l.length-i,0,(cvE rfl rfl),⟨hX,Gj _,hR⟩,?_⟩;clear hX hR X hq hp;rintro i X ⟨hX,hi,hR⟩;dsimp only at hi hR ⊢;refine biE (fun hc=>?_) fun hc=>?_
 ·have hc:(i:Int)<(l.length:Int):=dT hc;have hil:i<l.length:=by omega
  have hil2:i<l2.length:=by omega
  rw [Jo hil,Jo hil2,sameK] at hR;refine DrawE.ord [] [0,1,2,3,4,5,6,7,8,9,10,11] (by kernel_rfl) ?_;have hD:=hX.below (Gm X.heap.size X).drew;obtain⟨b1,o1,q1,c1,rfl,e1,s1,m1,k1⟩:=hD.k.kid (l:=l) hil;obtain⟨b2,o2,q2,c2,rfl,e2,s2,m2,k2'⟩:=hD.l.kid (l:=l2) hil2;refine⟨_,zc (za hD.x) (i:=2) rfl,i,rfl,hil,_,rfl,e1,s1,_,zc (za hD.y) (i:=2) rfl,i,rfl,hil2,_,rfl,e2,s2,cmo (ih l[i] (gM hil) l2[i] q1 q2 c1 c2 _ k1 k2') ?_⟩;rintro e Y ⟨rfl,bY⟩;refine⟨bY,?_⟩;have hY:=hD.below bY;refine biE (fun h=>?_) fun h=>?_
  ·have h:(!sameT l[i] l2[i])=true:=h;refine⟨rb ?_,hY.b⟩;rw [hR,show sameT l[i] l2[i]=false by simpa using h];rfl
  ·have h:(!sameT l[i] l2[i])=false:=h;rw [show sameT l[i] l2[i]=true by simpa using h,UD] at hR;exact nxI (by omega) ⟨i+1,(cvE rfl rfl),⟨hY,hil,hR⟩,zdc (by omega)⟩
 ·have hc:¬ (i:Int)<(l.length:Int):=dF hc;rw [JA (by omega),sameK] at hR;exact⟨rb hR.symm,hX.b⟩
theorem zss:∀ a b,ztY a b
 | .mk k n l,.mk k2 n2 l2=>zsS fun x hx y=>zss x y
end
def zfm:List LineD->List LineD->Bool
 | [],_=>true
 | _::_,[]=>false
 | a::r,b::r2=>(decide (a.kind=b.kind)&&(decide (a.name=b.name)&&sameT a.term b.term))&&zfm r r2
def ziI (a b:List LineD):Bool:=decide (a.length=b.length)&&zfm a b
theorem LinsM.line {Q:Nat->Prop} {w:Wd} {p:OA} {ls:List LineD} (h:LinsM Q w p ls) {i:Nat} (hi:i<ls.length) :
  ∃ b o q c,p=some ⟨b,o,none⟩/\zq w ⟨b,o+i*5,none⟩ (zA ls[i].kind ls[i].name ls[i].term q c)/\b<w.heap.size/\ls[i].kind<=255/\ls[i].name.length<=140737488351232/\ls[i].term.name.length<=140737488351232/\KidsT Q w q ls[i].term.kids:=by
 obtain⟨rows,hrl,zbT,hrk,_⟩:=h;have hrn:rows.length=ls.length:=by rw [<- hrl,QS]
 have hir:i<rows.length:=by omega
 have hxr:rows[i].1=ls[i]:=by
  have:(rows.map (·.1))[i]?=ls[i]?:=by rw [hrl]
  rw [KW,gE hir,gE hi] at this;exact Ui this
 obtain⟨bk,o,hp,hbk,hcl⟩:=zbT.at hir;obtain⟨k1,k2,k3,k4⟩:=hrk rows[i] (gM hir);have hcell:zq w ⟨bk,o+i*5,none⟩ (zA rows[i].1.kind rows[i].1.name rows[i].1.term rows[i].2.1 rows[i].2.2):=hcl i hir;rw [hxr] at hcell k1 k2 k3 k4;exact⟨bk,o,_,_,hp,hcell,hbk,k1,k2,k3,k4⟩
section
variable {w:Wd}
structure TwoM (w:Wd) (a b:List LineD) (q p:OA) (c d:Nat) (X:Wd):Prop where
 x:X.heap[w.heap.size]?=some (.cells #[.slice q a.length c] 47 (0,0))
 y:X.heap[w.heap.size+1]?=some (.cells #[.slice p b.length d] 47 (0,0))
 k:LinsM jS X q a
 l:LinsM jS X p b
 b:Bw w X
theorem TwoM.below {a b:List LineD} {q p:OA} {c d:Nat} {X Y:Wd} (h:TwoM w a b q p c d X) (hb:Bw X Y):TwoM w a b q p c d Y :=
 ⟨zb hb h.x,zb hb h.y,h.k.below hb,h.l.below hb,h.b.trans (hb.mono h.b.size)⟩
theorem zmT {a b:List LineD} {q p:OA} {c d:Nat} (ha:a.length<=140737488351232) (hb:b.length<=140737488351232) (hq:LinsM jS w q a) (hp:LinsM jS w p b) :
  CB 36 #[.agg #[.slice q a.length c],.agg #[.slice p b.length d]] w (.bool (ziI a b)):=by
 refine zU 49 [.agg #[.slice q a.length c],.agg #[.slice p b.length d]] (.c .p (.c .p (.s (.s .p (.b (.l (.s .p (.s .p (.s (.b (.c .p (.c .p .p))) .p)))))) .p))) Tryz.func36 ?_;refine⟨Unit,fun _=>⟨[(2,At0 w.heap.size),(3,At0 (w.heap.size+1))],[]⟩,fun _ X=>TwoM w a b q p c d X,?_,?_⟩
 ·obtain⟨W1,e1⟩:=nm (w.alloc (.cells #[.slice q a.length c] 47));have n1:W1.heap.size=w.heap.size+1:=by rw [e1];exact wz _ _
  have f1:W1.heap[w.heap.size]?=some (.cells #[.slice q a.length c] 47 (0,0)):=by rw [e1];exact zt w _
  have b1:Bw w W1:=by rw [e1];exact zba _ _
  obtain⟨W2,e2⟩:=nm (W1.alloc (.cells #[.slice p b.length d] 47));have f2:W2.heap[w.heap.size+1]?=some (.cells #[.slice p b.length d] 47 (0,0)):=by rw [e2,<- n1];exact zt W1 _
  have b2:Bw W1 W2:=by rw [e2];exact zba _ _
  refine⟨(),⟨.cons rfl (.cons ?_ .nil),rfl⟩,?_⟩
  ·show some (At0 (w.alloc (.cells #[.slice q a.length c] 47)).heap.size)=_;rw [wz]
  ·have b12:=zst b1 b2;have key:TwoM w a b q p c d W2:=⟨zb b2 f1,f2,hq.below b12,hp.below b12,b12⟩;rw [e2,e1] at key;exact key
 rintro _ X hX;unfold ziI;refine⟨Unit,fun _=>⟨[(2,At0 w.heap.size),(3,At0 (w.heap.size+1))],[]⟩,fun _ Y=>X=Y/\a.length=b.length,?_,?_⟩
 ·refine⟨_,zc (za hX.x) (i:=0) rfl,_,zc (za hX.y) (i:=0) rfl,biE (fun h3=>?_) fun h3=>?_⟩
  ·have h3:(!decide ((a.length:Int)=(b.length:Int)))=true:=h3;rw [zP] at h3;exact⟨rb (by rw [show decide (a.length=b.length)=false by simpa using h3];rfl),hX.b⟩
  ·have h3:(!decide ((a.length:Int)=(b.length:Int)))=false:=h3;rw [zP] at h3;exact⟨(),(cvE rfl rfl),rfl,by simpa using h3⟩
 rintro _ _ ⟨rfl,hlen⟩;rw [Ux hlen,UD];obtain⟨R,hR⟩:=nm (zfm a b);rw [<- hR];refine⟨_,zc (za hX.x) (i:=0) rfl,Nat,fun i=>⟨[(2,At0 w.heap.size),(3,At0 (w.heap.size+1)),(16,.slice q a.length c),(17,i64 (a.length:Nat)),(18,.int .i64 (i:Nat))],[]⟩,fun i X=>TwoM w a b q p c d X/\i<=a.length/\R=zfm (a.drop i) (b.drop i),fun i=>a.length-i,0,(cvE rfl rfl),⟨hX,Gj _,hR⟩,?_⟩;clear hX hR X hq hp;rintro i X ⟨hX,hi,hR⟩;dsimp only at hi hR ⊢;refine biE (fun hc=>?_) fun hc=>?_
 ·have hc:(i:Int)<(a.length:Int):=dT hc;have hil:i<a.length:=by omega
  have hil2:i<b.length:=by omega
  rw [Jo hil,Jo hil2,zfm] at hR;obtain⟨u,hu⟩:=nm (a[i]);obtain⟨v,hv⟩:=nm (b[i]);rw [<- hu,<- hv] at hR;obtain⟨b1,o1,q1,c1,rfl,e1,s1,_,_,m1,k1⟩:=hX.k.line hil;rw [<- hu] at e1 m1 k1;refine⟨Nat,fun x=>⟨[(2,At0 w.heap.size),(3,At0 (w.heap.size+1)),(5,.int .i64 (i:Nat)),(6,At0 x),(16,.slice (some ⟨b1,o1,none⟩) a.length c),(17,i64 (a.length:Nat)),(18,.int .i64 (i:Nat))],[]⟩,fun x Y=>TwoM w a b (some ⟨b1,o1,none⟩) p c d Y/\Y.heap[x]?=some (.cells (zA u.kind u.name u.term q1 c1).toArray 49 (0,0))/\KidsT jS Y q1 u.term.kids,?_,?_⟩
  ·exact⟨i,rfl,hil,_,rfl,e1,s1,zl (X:=X) (v := .agg (zA u.kind u.name u.term q1 c1).toArray) k49 rfl rfl rfl fun Y hbY fY sY=>⟨X.heap.size,(cvE rfl rfl),hX.below hbY,fY,k1.kept hbY⟩⟩
  clear hX e1 s1 k1 X;rintro x X ⟨hX,fx,k1⟩;obtain⟨b2,o2,q2,c2,rfl,e2,s2,_,_,m2,k2⟩:=hX.l.line hil2;rw [<- hv] at e2 m2 k2;refine⟨Nat,fun y=>⟨[(2,At0 w.heap.size),(3,At0 (w.heap.size+1)),(6,At0 x),(7,At0 y),(16,.slice (some ⟨b1,o1,none⟩) a.length c),(17,i64 (a.length:Nat)),(18,.int .i64 (i:Nat))],[]⟩,fun y Y=>TwoM w a b (some ⟨b1,o1,none⟩) (some ⟨b2,o2,none⟩) c d Y/\Y.heap[x]?=some (.cells (zA u.kind u.name u.term q1 c1).toArray 49 (0,0))/\KidsT jS Y q1 u.term.kids/\Y.heap[y]?=some (.cells (zA v.kind v.name v.term q2 c2).toArray 49 (0,0))/\KidsT jS Y q2 v.term.kids,?_,?_⟩
  ·exact⟨_,zc (za hX.y) (i:=0) rfl,i,rfl,hil2,_,rfl,e2,s2,zl (X:=X) (v := .agg (zA v.kind v.name v.term q2 c2).toArray) k49 rfl rfl rfl fun Y hbY fY sY=>⟨X.heap.size,(cvE rfl rfl),hX.below hbY,zb hbY fx,k1.kept hbY,fY,k2.kept hbY⟩⟩
  clear hX fx k1 e2 s2 k2 X;rintro y X ⟨hX,fx,k1,fy,k2⟩;refine⟨_,zc (za fx) (i:=0) rfl,_,zc (za fy) (i:=0) rfl,biE (fun h1=>?_) fun h1=>?_⟩
  ·have h1:(!decide ((u.kind:Int)=(v.kind:Int)))=true:=h1;rw [zP] at h1;exact brT (brT ⟨rb (by rw [hR,show decide (u.kind=v.kind)=false by simpa using h1];rfl),hX.b⟩)
  have h1:(!decide ((u.kind:Int)=(v.kind:Int)))=false:=h1;rw [zP] at h1;rw [show decide (u.kind=v.kind)=true by simpa using h1,UD] at hR;refine⟨_,zc (za fx) (i:=1) rfl,_,zc (za fy) (i:=1) rfl,_,fun w=>zeQ _ _ u.name v.name w,biE (fun h2=>?_) fun h2=>?_⟩
  ·have h2:(!decide (u.name=v.name))=true:=h2;exact brT ⟨rb (by rw [hR,show decide (u.name=v.name)=false by simpa using h2];rfl),hX.b⟩
  have h2:(!decide (u.name=v.name))=false:=h2;rw [show decide (u.name=v.name)=true by simpa using h2,UD] at hR;have t1:zq X ⟨x,0+2,none⟩ (ze u.term q1 c1):=q9 (o:=2) (n:=3) fx;have t2:zq X ⟨y,0+2,none⟩ (ze v.term q2 c2):=q9 (o:=2) (n:=3) fy;refine⟨_,rfl,t1,hlt fx,_,rfl,t2,hlt fy,cmo (zss u.term v.term q1 q2 c1 c2 X k1 k2) ?_⟩;rintro e Y ⟨rfl,bY⟩;have hY:=hX.below bY;refine biE (fun h=>?_) fun h=>?_
  ·have h:(!sameT u.term v.term)=true:=h;refine⟨rb ?_,hY.b⟩;rw [hR,show sameT u.term v.term=false by simpa using h];rfl
  ·have h:(!sameT u.term v.term)=false:=h;rw [show sameT u.term v.term=true by simpa using h,UD] at hR;exact nxI (by omega) ⟨i+1,(cvE rfl rfl),⟨hY,hil,hR⟩,zdc (by omega)⟩
 ·have hc:¬ (i:Int)<(a.length:Int):=dF hc;rw [JA (by omega),zfm] at hR;exact⟨rb hR.symm,hX.b⟩
end
theorem zaJ {E:Env} {x:Operand} {v:Value} {f:Value->Prop} (h:opd E x=some v) (k:f v):zR E x f:=by unfold zR;rw [h];exact k
theorem zQ {E:Env} {t u:Nat} {v:Value} (h:u≠t):Env.find (zdd (some u) v E) t=Env.find E t:=by
 show VEnv.find ((u,v)::E.vs) t=VEnv.find E.vs t;have:Nat.beq u t=false:=by cases hb:Nat.beq u t with | false=>rfl | true=>exact GD (JR hb) h
 simp only [VEnv.find,this]
theorem zbD {E:Env} {t:Nat} {v:Value}:Env.find (zdd (some t) v E) t=some v:=by
 show VEnv.find ((t,v)::E.vs) t=some v;simp only [VEnv.find,UV]
def zs0:Code->Array Oper
 | .region _ ops _=>ops
 | _ => #[]
def zvu:Code->Code
 | .seq a _=>a
 | c=>c
def zqX:Code->Code
 | .seq _ b=>b
 | c=>c
noncomputable def zdn:Array Oper:=zs0 (zvu (zqX (zqX (zqX (zqX ((Tryz.f51.body).getD .skip))))))
def lkD (D:Nat->Bool):List (Nat×Bs×Value)->Bs->Option Value
 | [],_=>none
 | (i,k,v)::r,q=>if q=k then (if D i=true then some v else none) else lkD D r q
theorem zeY {D D':Nat->Bool}:∀ {l:List (Nat×Bs×Value)},(∀ p∈l,D' p.1=D p.1)->lkD D' l=lkD D l
 | [],_=>rfl
 | (i,k,v)::r,h=>by
  funext q;have h1:D' i=D i:=h (i,k,v) (KB ..);simp only [lkD,h1,zeY (l:=r) fun p hp=>h p (JW _ hp)]
theorem zkg {D:Nat->Bool}:∀ {l:List (Nat×Bs×Value)},(∀ p∈l,D p.1=false)->lkD D l=fun _=>none
 | [],_=>rfl
 | (i,k,v)::r,h=>by
  funext q;have h1:D i=false:=h (i,k,v) (KB ..);simp only [lkD,h1,zkg (l:=r) fun p hp=>h p (JW _ hp)]
  split <;> rfl
theorem zpt {D:Nat->Bool} {i:Nat} {k:Bs} {v:Value}:∀ {l:List (Nat×Bs×Value)},(i,k,v)∈l->(l.map (·.1)).Nodup->(l.map (·.2.1)).Nodup->lkD (fun j=>Nat.beq j i||D j) l=fun q=>if q=k then some v else lkD D l q
 | [],h,_,_=>by cases h
 | (a,b,c)::r,h,h1,h2=>by
  rw [UI,QZ] at h1 h2;funext q;rcases UJ.1 h with e | e
  ·simp only [UN] at e;obtain⟨rfl,rfl,rfl⟩:=e;by_cases hq:q=k
   ·simp only [lkD,hq,GA,UV,Bool.true_or]
   ·simp only [lkD,hq,Gx];rw [zeY fun p hp=>?_];have:p.1≠i:=fun e=>h1.1 (by rw [<- e];exact Kl (f:=(·.1)) hp);have:Nat.beq p.1 i=false:=(by cases hb:Nat.beq p.1 i with | false=>rfl | true=>exact GD (JR hb) this);rw [this,UA]
  ·have hk:k≠b:=fun e'=>h2.1 (by show b∈_;rw [<- e'];exact Kl (f:=fun p:Nat×Bs×Value=>p.2.1) e);have hi:i≠a:=fun e'=>h1.1 (by show a∈_;rw [<- e'];exact Kl (f:=fun p:Nat×Bs×Value=>p.1) e);have hb:Nat.beq a i=false:=by cases hb:Nat.beq a i with | false=>rfl | true=>exact GD (JR hb).symm hi
   have ih:=congrFun (zpt (D:=D) e h1.2 h2.2) q;simp only [lkD,hb,UA,ih];by_cases hq:q=b
   ·have hqk:¬ q=k:=fun e=>hk (e.symm.trans hq);rw [GC hq,GB hqk,GC hq]
   ·rw [GB hq,GB hq]
section
variable {x:ExD} {q:OA} {c:Nat} {w:Wd}
def zew (x:ExD) (q:OA) (c:Nat) (mb:Nat):List Value:=exC x q c++[i64 (x.ev.length:Nat),.map (some mb)]
abbrev zat (r:RelD):Value := .agg (zf r).toArray
def crX (x:ExD):RelD:=zab x.ev.length (jb x.ev.length) (jb x.ev.length)
def nwI (x:ExD):List (Nat×Bs×Value):=[(5,[112,111],zat (x.po)),(8,[114,102],zat (x.rf)),(11,[99,111],zat (x.co)),(14,[114,109,119],zat (x.rm)),(17,[100,97,116,97],zat (x.dt)),(20,[99,116,114,108],zat (x.ct)),(23,[102,114],zat (frX x)),(26,[108,111,99],zat (zkf x)),(30,[105,100],zat (idR x.ev.length (jb x.ev.length))),(34,[101,120,116],zat (zku x (crX x))),(38,[105,110,116],zat (zkk x (crX x)))]
def nwT (x:ExD) (q:OA) (c bx:Nat):List (Nat×Nat×Value):=[(0,15,.agg (exC x q c).toArray),(1,16,i64 (x.ev.length:Nat)),(3,18,.pointer (some ⟨bx,0+1,none⟩)),(4,19,zat x.po),(6,20,.pointer (some ⟨bx,0+50,none⟩)),(7,21,zat x.rf),(9,22,.pointer (some ⟨bx,0+99,none⟩)),(10,23,zat x.co),(12,24,.pointer (some ⟨bx,0+246,none⟩)),(13,25,zat x.rm),(15,26,.pointer (some ⟨bx,0+148,none⟩)),(16,27,zat x.dt),(18,28,.pointer (some ⟨bx,0+197,none⟩)),(19,29,zat x.ct),(21,30,.agg (exC x q c).toArray),(22,31,zat (frX x)),(24,32,.agg (exC x q c).toArray),(25,33,zat (zkf x)),(27,34,i64 (x.ev.length:Nat)),(28,35,s64 (jb x.ev.length)),(29,36,zat (idR x.ev.length (jb x.ev.length))),(31,37,.agg (exC x q c).toArray),(32,38,zat (crX x)),(33,39,zat (zku x (crX x))),(35,40,.agg (exC x q c).toArray),(36,41,zat (crX x)),(37,42,zat (zkk x (crX x)))]
def nwB (x:ExD) (bx cb:Nat):VEnv:=[(1,At0 bx),(3,i64 (x.ev.length:Nat)),(4,s64 (jb x.ev.length)),(5,At0 cb)]
theorem zfu {α β:Type} [DecidableEq β] {f:α->β}:∀ {l:List α},(l.map f).Nodup->∀ a∈l,∀ b∈l,f a=f b->a=b
 | [],_,a,ha,_,_,_=>by cases ha
 | y::r,h,a,ha,b,hb,e=>by
  rw [UI,QZ] at h;rcases UJ.1 ha with ea | ha'
  ·rcases UJ.1 hb with eb | hb'
   ·rw [ea,eb]
   ·exact GD (by rw [<- ea,e];exact Kl (f:=f) hb') h.1
  ·rcases UJ.1 hb with eb | hb'
   ·exact GD (by rw [<- eb,<- e];exact Kl (f:=f) ha') h.1
   ·exact zfu h.2 a ha' b hb' e
def zj1:List Nat:=[0,1,3,4,6,7,9,10,12,13,15,16,18,19,21,22,24,25,27,28,29,31,32,33,35,36,37]
def zk7:List Nat:=[15,16,18,19,20,21,22,23,24,25,26,27,28,29,30,31,32,33,34,35,36,37,38,39,40,41,42]
def zkm:List Nat:=[5,8,11,14,17,20,23,26,30,34,38]
theorem zrc (bx:Nat):((nwT x q c bx).map (·.1)).Nodup:=show zj1.Nodup by decide
theorem znE (bx:Nat):((nwT x q c bx).map (·.2.1)).Nodup:=show zk7.Nodup by decide
theorem zre:((nwI x).map (·.1)).Nodup:=show zkm.Nodup by decide
theorem zpi:((nwI x).map (·.2.1)).Nodup:=by show ([[112,111],[114,102],[99,111],[114,109,119],[100,97,116,97],[99,116,114,108],[102,114],[108,111,99],[105,100],[101,120,116],[105,110,116]]:List Bs).Nodup;decide
theorem ztd:∀ p∈nwI x,p.1<43:=by
 have h:∀ a∈zkm,a<43:=by decide
 exact fun p hp=>h p.1 (Kl (f:=(·.1)) hp)
theorem ztc (bx:Nat):∀ p∈nwT x q c bx,(p.1 ∉ (nwI x).map (·.1))/\p.1≠2/\p.1<39:=by
 have h:∀ a∈zj1,a ∉ zkm/\a≠2/\a<39:=by decide
 exact fun p hp=>h p.1 (Kl (f:=(·.1)) hp)
theorem zrd (bx:Nat):∀ p∈nwT x q c bx,15<=p.2.1/\p.2.1≠17/\p.2.1<43:=by
 have h:∀ a∈zk7,15<=a/\a≠17/\a<43:=by decide
 exact fun p hp=>h p.2.1 (Kl (f:=fun p:Nat×Nat×Value=>p.2.1) hp)
structure MpN (x:ExD) (q:OA) (c:Nat) (R0:Wd) (D:Nat->Bool) (E:Env) (w:Wd) (mb:Nat):Prop where
 lo:R0.heap.size<=mb
 f:Env.find E 17=some (.map (some mb))
 m:MapF zbn w mb (lkD D (nwI x))
 a:D 39=true->Env.find E 43=some (.map (some mb))
 b:D 40=true->Env.find E 44=some (.agg (zew x q c mb).toArray)
 e:D 41=true->∃ bb,R0.heap.size<=bb/\w.heap[bb]?=some (.cells (zew x q c mb).toArray 120 (0,0))/\Env.find E 45=some (At0 bb)/\(D 42=true->Env.find E 2=some (At0 bb))
structure JN (x:ExD) (q:OA) (c bx cb:Nat) (R0:Wd) (D:Nat->Bool) (E:Env) (w:Wd):Prop where
 ds:E.ds=[]
 bs:CovL E.vs (nwB x bx cb)
 tb:∀ p∈nwT x q c bx,D p.1=true->Env.find E p.2.1=some p.2.2
 bl:Bw R0 w
 mp:D 2=true->∃ mb,MpN x q c R0 D E w mb
 o1:D 40=true->D 39=true
 o2:D 41=true->D 40=true
 o3:D 42=true->D 41=true
 o4:D 2=false->D 39=false/\∀ p∈nwI x,D p.1=false
section
variable {bx cb i t:Nat} {v:Value} {R0:Wd} {D:Nat->Bool} {E:Env} {w':Wd}
theorem zcB (h:CovL E.vs (nwB x bx cb)) {t:Nat} (ht:5<t\/t=2) (v:Value):CovL (zdd (some t) v E).vs (nwB x bx cb):=by
 have k:=h.find;have g:∀ n u,VEnv.find (nwB x bx cb) n=some u->t≠n->VEnv.find (zdd (some t) v E).vs n=some u:=fun n u hf hne=>(zQ (E:=E) (t:=n) (u:=t) (v:=v) hne).trans (k n u hf);exact .cons (g 1 _ rfl (by omega)) (.cons (g 3 _ rfl (by omega)) (.cons (g 4 _ rfl (by omega)) (.cons (g 5 _ rfl (by omega)) .nil)))
theorem orD (h:(Nat.beq i t||D i)=true) (hne:i≠t):D i=true:=by
 have:Nat.beq i t=false:=by cases hb:Nat.beq i t with | false=>rfl | true=>exact GD (JR hb) hne
 rwa [this,UA] at h
theorem zcp (hne:i≠t):(Nat.beq i t||D i)=D i:=by
 have:Nat.beq i t=false:=by cases hb:Nat.beq i t with | false=>rfl | true=>exact GD (JR hb) hne
 rw [this,UA]
theorem JN.put (h:JN x q c bx cb R0 D E w) (hm:(i,t,v)∈nwT x q c bx) (hb:Bw w w'):JN x q c bx cb R0 (fun j=>Nat.beq j i||D j) (zdd (some t) v E) w':=by
 obtain⟨s1,s2,s3⟩:=zrd bx _ hm;obtain⟨o1,o2,o3⟩:=ztc bx _ hm;dsimp only at s1 s2 s3 o1 o2 o3;refine⟨h.ds,zcB h.bs (.inl (by omega)) v,fun p hp hd=>?_,h.bl.trans (hb.mono h.bl.size),fun hd=>?_,fun hd=>by rw [QK];exact .inr (h.o1 (orD hd (by omega))),fun hd=>by rw [QK];exact .inr (h.o2 (orD hd (by omega))),fun hd=>by rw [QK];exact .inr (h.o3 (orD hd (by omega))),fun hd=>?_⟩
 rotate_left 1
 rotate_left 1
 ·have hd:(Nat.beq 2 i||D 2)=false:=hd;rw [zcp (by omega)] at hd;obtain⟨k1,k2⟩:=h.o4 hd;exact⟨(zcp (by omega)).trans k1,fun p hp=>(zcp fun e=>o1 (by rw [<- e];exact Kl (f:=fun p:Nat×Bs×Value=>p.1) hp)).trans (k2 p hp)⟩
 ·by_cases e:p.1=i
  ·have:=zfu (zrc bx) p hp _ hm e;rw [this];exact zbD
  ·have e2:t≠p.2.1:=fun e'=>e (by rw [zfu (znE bx) p hp _ hm e'.symm]);rw [zQ e2];exact h.tb p hp (orD hd e)
 ·obtain⟨mb,hM⟩:=h.mp (orD hd (by omega));have ml:=jN hM.m;refine⟨mb,hM.lo,(zQ (by omega)).trans hM.f,?_,fun hd=>(zQ (by omega)).trans (hM.a (orD hd (by omega))),fun hd=>(zQ (by omega)).trans (hM.b (orD hd (by omega))),fun hd=>?_⟩
  ·rw [zeY fun p hp=>zcp fun e=>o1 (by rw [<- e];exact Kl (f:=(·.1)) hp)];exact hM.m.below hb
  ·obtain⟨bb,hlo,hbx,hf,h2⟩:=hM.e (orD hd (by omega));exact⟨bb,hlo,zb hb hbx,(zQ (by omega)).trans hf,fun hd=>(zQ (by omega)).trans (h2 (orD hd (by omega)))⟩
def okI (i:Nat):Bool:=decide (i<39)&&(decide (i≠2)&&decide (i ∉ zj1))
theorem JN.ins (h:JN x q c bx cb R0 D E w) {k:Bs} (hm:(i,k,v)∈nwI x) (h2:D 2=true) (hok:okI i=true) :
  ∃ mb,opd E (.tmp 17)=some (.map (some mb))/\∀ {K:Wd->Prop},(∀ w',JN x q c bx cb R0 (fun j=>Nat.beq j i||D j) E w'->K w')->SatR ((Instr.mapUpdate 118 (.map (some mb)) (zbn k) v).run PG w) fun _ w'=>K w':=by
 unfold okI at hok;rw [bAT,bAT,dE,dE,dE] at hok;obtain⟨hi,hi2,hni⟩:=hok;replace hni:i ∉ (nwT x q c bx).map (·.1):=hni;obtain⟨mb,hM⟩:=h.mp h2;refine⟨mb,hM.f,fun {K} hK=>?_⟩;obtain⟨o,hr,hm'⟩:=qq zjB Tryz.underlying118 hM.m k v;refine⟨_,_,hr,hK _ ?_⟩;have ml:=jN hM.m;refine⟨h.ds,h.bs,fun p hp hd=>h.tb p hp (orD hd fun e=>hni (by rw [<- e];exact Kl (f:=(·.1)) hp)),z8 h.bl hM.lo o,fun _=>⟨mb,hM.lo,hM.f,?_,fun hd=>hM.a (orD hd (by omega)),fun hd=>hM.b (orD hd (by omega)),fun hd=>?_⟩,fun hd=>by rw [QK];exact .inr (h.o1 (orD hd (by omega))),fun hd=>by rw [QK];exact .inr (h.o2 (orD hd (by omega))),fun hd=>by rw [QK];exact .inr (h.o3 (orD hd (by omega))),fun hd=>GD h2 (by have hd:(Nat.beq 2 i||D 2)=false:=hd;rw [zcp (by omega)] at hd;rw [hd];decide)⟩
 ·rw [zpt hm zre zpi];exact hm'
 ·obtain⟨bb,hlo,hbx,hf,h2⟩:=hM.e (orD hd (by omega));refine⟨bb,hlo,?_,hf,fun hd=>h2 (orD hd (by omega))⟩;have hne:bb≠mb:=by
   rintro rfl;obtain⟨es,cl,hh,_⟩:=hM.m;rw [hh] at hbx;cases hbx
  exact (zj hne).trans hbx
end
theorem jo {a b:Bool} (h:(a&&b)=true):a=true:=by cases a with | true=>rfl | false=>cases h
theorem zc3 {a b:Bool} (h:(a&&b)=true):b=true:=by cases a with | true=>exact h | false=>cases h
theorem mTn {bx:Nat} {p:Nat×Nat×Value} (i:Nat) (h:(nwT x q c bx)[i]?=some p):p∈nwT x q c bx:=JY h
theorem mIn {p:Nat×Bs×Value} (i:Nat) (h:(nwI x)[i]?=some p):p∈nwI x:=JY h
theorem zmL:zE (crX x).to:=zbF fun i _ _=>by
 by_cases h:(jb x.ev.length).testBit i=true
 ·rw [GC h];exact KG Uc (qS _)
 ·rw [GB h];decide
structure R0N (x:ExD) (q:OA) (c bx cb:Nat) (R0:Wd):Prop where
 h:ExH R0 bx x q c
 cr:R0.heap[cb]?=some (.cells (zf (crX x)).toArray 30 (0,0))
 v:ExV R0 x q
 t:Tz64M R0
theorem zh0:∀ (A B C xs:List Value),B.length=xs.length->zb9 (A++(B++C)) A.length xs=A++(xs++C)
 | A,B,C,[],h=>by rw [Jf h];rfl
 | A,[],C,y::xs,h=>by simp at h
 | A,b::B,C,y::xs,h=>by
  have e:(A++(b::B++C)).set A.length y=(A++[y])++(B++C):=by
   rw [JP _ _ (Gh _),UZ];simp
  rw [zb9,e];have:=zh0 (A++[y]) B C xs (by simpa using h);rw [lap,List.length_singleton] at this;rw [this];simp
theorem zpN {xs z:List Value} (hx:xs.length=333) (hz:z.length=335) {a b d:Operand} {n:Int} {r:Option Nat}:zc8 (zfr [(0,333,true),(333,1,false),(334,1,false)]) z (zf5 [(0,a),(1,b),(2,d)] [.agg xs.toArray,i64 n,.map r])=some (xs++[i64 n,.map r]):=by
 have e1:(Value.agg xs.toArray).cells.size=333:=hx;have e0:(Value.agg xs.toArray).cells.toList=xs:=rfl;have e2:(i64 n).cells.size=1:=rfl;have e3:(Value.map r).cells.size=1:=rfl;have h2:(i64 n).cells.toList=[i64 n]:=rfl;have h3:(Value.map r).cells.toList=[.map r]:=rfl;have hz2:z=z.take 333++z.drop 333:=(JQ 333 z).symm;have hzt:(z.take 333).length=333:=by rw [Qw];omega
 have hzd:(z.drop 333).length=2:=by rw [Qv];omega
 obtain⟨u,v,huv⟩:∃ u v,z.drop 333=[u,v]:=by
  match z.drop 333,hzd with
  | [u,v],_=>exact⟨u,v,rfl⟩
 have hp:zb9 z 0 xs=xs++[u,v]:=by
  rw [hz2,huv];exact zh0 [] _ _ _ (by rw [hx,hzt])
 have l1:(xs++[u,v]).length=335:=by rw [lap,hx];rfl
 simp only [zf5,zc8,zfr,List.getElem?_cons_zero,Ju,e0,e1,e2,e3,h2,h3,hz,hp];simp only [UV,Gb,UD,l1];have s1:zb9 (xs++[u,v]) 333 [i64 n]=xs++[i64 n,v]:=by
  simp only [zb9];rw [JP _ _ (by omega),hx];rfl
 have l2:(xs++[i64 n,v]).length=335:=by rw [lap,hx];rfl
 have s2:zb9 (xs++[i64 n,v]) 334 [.map r]=xs++[i64 n,.map r]:=by
  simp only [zb9];rw [JP _ _ (by omega),hx];rfl
 have b1:Nat.ble 333 335=true:=rfl;have b2:Nat.ble (333+1) 335=true:=rfl;have b3:Nat.ble (334+1) 335=true:=rfl;simp only [s1,l2,s2,b3]
theorem zqE:(zsq).length=335:=by kernel_rfl
section
variable {bx cb i t:Nat} {v:Value} {R0:Wd} {D:Nat->Bool} {E:Env}
abbrev NwS (i:Nat):Prop:=∀ {x:ExD} {q:OA} {c:Nat} {w:Wd} {bx cb:Nat} {R0:Wd} {D:Nat->Bool} {E:Env},R0N x q c bx cb R0->JN x q c bx cb R0 D E w->zho zdn D i=true->zbK (sg 46) zdn i E w fun E' w'=>JN x q c bx cb R0 (fun j=>Nat.beq j i||D j) E' w'
theorem wT {E:Env} {t:Nat} {v:Value} {f:Value->Prop} (h:VEnv.find E.vs t=some v) (k:f v):zR E (.tmp t) f:=zaJ (x := .tmp t) h k
theorem zvH:NwS 0:=fun hR h hd=>wT (h.bs.find 1 _ rfl) ⟨_,zH _ _ _,za (zb h.bl hR.h),hlt (zb h.bl hR.h),h.put (mTn 0 rfl) (Gm _ _)⟩
theorem zuP:NwS 21:=fun hR h hd=>wT (h.bs.find 1 _ rfl) ⟨_,zH _ _ _,za (zb h.bl hR.h),hlt (zb h.bl hR.h),h.put (mTn 14 rfl) (Gm _ _)⟩
theorem zuM:NwS 24:=fun hR h hd=>wT (h.bs.find 1 _ rfl) ⟨_,zH _ _ _,za (zb h.bl hR.h),hlt (zb h.bl hR.h),h.put (mTn 16 rfl) (Gm _ _)⟩
theorem zuF:NwS 31:=fun hR h hd=>wT (h.bs.find 1 _ rfl) ⟨_,zH _ _ _,za (zb h.bl hR.h),hlt (zb h.bl hR.h),h.put (mTn 21 rfl) (Gm _ _)⟩
theorem zuB:NwS 35:=fun hR h hd=>wT (h.bs.find 1 _ rfl) ⟨_,zH _ _ _,za (zb h.bl hR.h),hlt (zb h.bl hR.h),h.put (mTn 24 rfl) (Gm _ _)⟩
theorem zuE:NwS 32:=fun hR h hd=>wT (h.bs.find 5 _ rfl) ⟨_,zd _,za (zb h.bl hR.cr),hlt (zb h.bl hR.cr),h.put (mTn 22 rfl) (Gm _ _)⟩
theorem zuA:NwS 36:=fun hR h hd=>wT (h.bs.find 5 _ rfl) ⟨_,zd _,za (zb h.bl hR.cr),hlt (zb h.bl hR.cr),h.put (mTn 25 rfl) (Gm _ _)⟩
theorem zvG:NwS 1:=fun hR h hd=>wT (h.bs.find 3 _ rfl) (h.put (mTn 1 rfl) (Gm _ _))
theorem zuJ:NwS 27:=fun hR h hd=>wT (h.bs.find 3 _ rfl) (h.put (mTn 18 rfl) (Gm _ _))
theorem zuI:NwS 28:=fun hR h hd=>wT (h.bs.find 4 _ rfl) (h.put (mTn 19 rfl) (Gm _ _))
theorem zvE:NwS 3:=fun hR h hd=>wT (h.bs.find 1 _ rfl) (h.put (mTn 2 rfl) (Gm _ _))
theorem zvD:NwS 4:=fun hR h hd=>wT (h.tb _ (mTn 2 rfl) (jo hd)) ⟨_,zd _,j6 (zb h.bl hR.h) (i:=0) (by decide) rfl,hlt (zb h.bl hR.h),h.put (mTn 3 rfl) (Gm _ _)⟩
theorem zvB:NwS 6:=fun hR h hd=>wT (h.bs.find 1 _ rfl) (h.put (mTn 4 rfl) (Gm _ _))
theorem zvA:NwS 7:=fun hR h hd=>wT (h.tb _ (mTn 4 rfl) (jo hd)) ⟨_,zd _,j6 (zb h.bl hR.h) (i:=1) (by decide) rfl,hlt (zb h.bl hR.h),h.put (mTn 5 rfl) (Gm _ _)⟩
theorem zvy:NwS 9:=fun hR h hd=>wT (h.bs.find 1 _ rfl) (h.put (mTn 6 rfl) (Gm _ _))
theorem zu0:NwS 10:=fun hR h hd=>wT (h.tb _ (mTn 6 rfl) (jo hd)) ⟨_,zd _,j6 (zb h.bl hR.h) (i:=2) (by decide) rfl,hlt (zb h.bl hR.h),h.put (mTn 7 rfl) (Gm _ _)⟩
theorem zuY:NwS 12:=fun hR h hd=>wT (h.bs.find 1 _ rfl) (h.put (mTn 8 rfl) (Gm _ _))
theorem zuX:NwS 13:=fun hR h hd=>wT (h.tb _ (mTn 8 rfl) (jo hd)) ⟨_,zd _,j6 (zb h.bl hR.h) (i:=5) (by decide) rfl,hlt (zb h.bl hR.h),h.put (mTn 9 rfl) (Gm _ _)⟩
theorem zuV:NwS 15:=fun hR h hd=>wT (h.bs.find 1 _ rfl) (h.put (mTn 10 rfl) (Gm _ _))
theorem zuU:NwS 16:=fun hR h hd=>wT (h.tb _ (mTn 10 rfl) (jo hd)) ⟨_,zd _,j6 (zb h.bl hR.h) (i:=3) (by decide) rfl,hlt (zb h.bl hR.h),h.put (mTn 11 rfl) (Gm _ _)⟩
theorem zuS:NwS 18:=fun hR h hd=>wT (h.bs.find 1 _ rfl) (h.put (mTn 12 rfl) (Gm _ _))
theorem zuR:NwS 19:=fun hR h hd=>wT (h.tb _ (mTn 12 rfl) (jo hd)) ⟨_,zd _,j6 (zb h.bl hR.h) (i:=4) (by decide) rfl,hlt (zb h.bl hR.h),h.put (mTn 13 rfl) (Gm _ _)⟩
theorem zuO:NwS 22:=fun hR h hd=>wT (h.tb _ (mTn 14 rfl) (jo hd)) (cmo (zvm (hR.v.below h.bl) (hR.t.below h.bl)) fun e w3 k=>by obtain⟨rfl,hb⟩:=k;exact h.put (mTn 15 rfl) (hb))
theorem zuL:NwS 25:=fun hR h hd=>wT (h.tb _ (mTn 16 rfl) (jo hd)) (cmo (zt5 (hR.v.below h.bl) (hR.t.below h.bl)) fun e w3 k=>by obtain⟨rfl,hb⟩:=k;exact h.put (mTn 17 rfl) (hb))
theorem zuH:NwS 29:=fun hR h hd=>wT (h.tb _ (mTn 18 rfl) (jo hd)) (wT (h.tb _ (mTn 19 rfl) (jo (zc3 hd))) (cmo (zoi (by have:=hR.v.n;omega) (qS _)) fun e w3 k=>by obtain⟨rfl,hb⟩:=k;exact h.put (mTn 20 rfl) (hb)))
theorem zuD:NwS 33:=fun hR h hd=>wT (h.tb _ (mTn 21 rfl) (jo hd)) (wT (h.tb _ (mTn 22 rfl) (jo (zc3 hd))) (cmo (zub (hR.v.below h.bl) zmL (hR.t.below h.bl)) fun e w3 k=>by obtain⟨rfl,hb⟩:=k;exact h.put (mTn 23 rfl) (hb)))
theorem zuz:NwS 37:=fun hR h hd=>wT (h.tb _ (mTn 24 rfl) (jo hd)) (wT (h.tb _ (mTn 25 rfl) (jo (zc3 hd))) (cmo (zt9 (hR.v.below h.bl) zmL (hR.t.below h.bl)) fun e w3 k=>by obtain⟨rfl,hb⟩:=k;exact h.put (mTn 26 rfl) (hb)))
theorem zhb {x:ExD} {q:OA} {c:Nat} {w:Wd} {bx cb i:Nat} {k:Bs} {v:Value} {R0:Wd} {D:Nat->Bool} {E:Env} (h:JN x q c bx cb R0 D E w) (hm:(i,k,v)∈nwI x) (h2:D 2=true) (hok:okI i=true) {t:Nat} (ht:Env.find E t=some v):zR E (.tmp 17) fun m=>zR E (.const (zbn k)) fun a=>zR E (.tmp t) fun b=>SatR ((Instr.mapUpdate 118 m a b).run PG w) fun _ w'=>JN x q c bx cb R0 (fun j=>Nat.beq j i||D j) E w':=by
 obtain⟨mb,hf,hk⟩:=h.ins hm h2 hok;exact zaJ (x := .tmp 17) hf (zaJ (x := .const _) rfl (wT ht (hk fun w' h=>h)))
theorem zvC:NwS 5:=fun hR h hd=>zhb h (mIn 0 rfl) (jo hd) rfl (h.tb _ (mTn 3 rfl) (jo (zc3 hd)))
theorem zvz:NwS 8:=fun hR h hd=>zhb h (mIn 1 rfl) (jo hd) rfl (h.tb _ (mTn 5 rfl) (jo (zc3 hd)))
theorem zuZ:NwS 11:=fun hR h hd=>zhb h (mIn 2 rfl) (jo hd) rfl (h.tb _ (mTn 7 rfl) (jo (zc3 hd)))
theorem zuW:NwS 14:=fun hR h hd=>zhb h (mIn 3 rfl) (jo hd) rfl (h.tb _ (mTn 9 rfl) (jo (zc3 hd)))
theorem zuT:NwS 17:=fun hR h hd=>zhb h (mIn 4 rfl) (jo hd) rfl (h.tb _ (mTn 11 rfl) (jo (zc3 hd)))
theorem zuQ:NwS 20:=fun hR h hd=>zhb h (mIn 5 rfl) (jo hd) rfl (h.tb _ (mTn 13 rfl) (jo (zc3 hd)))
theorem zuN:NwS 23:=fun hR h hd=>zhb h (mIn 6 rfl) (jo hd) rfl (h.tb _ (mTn 15 rfl) (jo (zc3 hd)))
theorem zuK:NwS 26:=fun hR h hd=>zhb h (mIn 7 rfl) (jo hd) rfl (h.tb _ (mTn 17 rfl) (jo (zc3 hd)))
theorem zuG:NwS 30:=fun hR h hd=>zhb h (mIn 8 rfl) (jo hd) rfl (h.tb _ (mTn 20 rfl) (jo (zc3 hd)))
theorem zuC:NwS 34:=fun hR h hd=>zhb h (mIn 9 rfl) (jo hd) rfl (h.tb _ (mTn 23 rfl) (jo (zc3 hd)))
theorem zuy:NwS 38:=fun hR h hd=>zhb h (mIn 10 rfl) (jo hd) rfl (h.tb _ (mTn 26 rfl) (jo (zc3 hd)))
theorem JN.env (h:JN x q c bx cb R0 D E w) {i:Nat} (hi:i ∉ (nwT x q c bx).map (·.1)) {t:Nat} (ht:t ∉ (nwT x q c bx).map (·.2.1)) (v:Value):∀ p∈nwT x q c bx,(fun j=>Nat.beq j i||D j) p.1=true->Env.find (zdd (some t) v E) p.2.1=some p.2.2:=fun p hp hd=>by
 rw [zQ fun e=>ht (by rw [e];exact Kl (f:=fun p:Nat×Nat×Value=>p.2.1) hp)];exact h.tb p hp (orD hd fun e=>hi (by rw [<- e];exact Kl (f:=fun p:Nat×Nat×Value=>p.1) hp))
theorem zgW {i:Nat} (hi:i ∉ (nwI x).map (·.1)):lkD (fun j=>Nat.beq j i||D j) (nwI x)=lkD D (nwI x) :=
 zeY fun p hp=>zcp fun e=>hi (by rw [<- e];exact Kl (f:=fun p:Nat×Bs×Value=>p.1) hp)
theorem zvF (hR:R0N x q c bx cb R0) (hJ:JN x q c bx cb R0 D E w) (hD:D 2=false):zbK (sg 46) zdn 2 E w fun E' w'=>JN x q c bx cb R0 (fun j=>Nat.beq j 2||D j) E' w':=by
 obtain⟨h39,hk⟩:=hJ.o4 hD;have hlk:=zkg hk;refine⟨Value.map (some w.heap.size),w.alloc (.map #[] 0),rfl,?_⟩;have m3:MapF (key:=zbn) (w.alloc (.map #[] 0)) w.heap.size (fun (_:Bs)=>none):=MapF.new;refine⟨hJ.ds,zcB hJ.bs (.inl (by decide)) _,hJ.env (show 2 ∉ zj1 by decide) (show 17 ∉ zk7 by decide) _,hJ.bl.trans ((zba _ _).mono hJ.bl.size),fun _=>⟨w.heap.size,hJ.bl.size,zbD,?_,fun hd=>?_,fun hd=>?_,fun hd=>?_⟩,hJ.o1,hJ.o2,hJ.o3,fun hd=>by cases hd⟩
 ·rw [zgW (show 2 ∉ zkm by decide),hlk];exact m3
 ·exact GD (orD hd (by decide)) (by rw [h39];decide)
 ·exact GD (hJ.o1 (orD hd (by decide))) (by rw [h39];decide)
 ·exact GD (hJ.o1 (hJ.o2 (orD hd (by decide)))) (by rw [h39];decide)
theorem zux (hR:R0N x q c bx cb R0) (hJ:JN x q c bx cb R0 D E w) (h2:D 2=true):zbK (sg 46) zdn 39 E w fun E' w'=>JN x q c bx cb R0 (fun j=>Nat.beq j 39||D j) E' w':=by
 obtain⟨mb,hM⟩:=hJ.mp h2;refine zaJ (x := .tmp 17) hM.f ⟨hJ.ds,zcB hJ.bs (.inl (by decide)) _,hJ.env (show 39 ∉ zj1 by decide) (show 43 ∉ zk7 by decide) _,hJ.bl,fun _=>⟨mb,hM.lo,(zQ (by decide)).trans hM.f,?_,fun _=>zbD,fun hd=>(zQ (by decide)).trans (hM.b (orD hd (by decide))),fun hd=>?_⟩,fun _=>rfl,hJ.o2,hJ.o3,fun hd=>GD ((zcp (by decide)).symm.trans hd) (by rw [h2];decide)⟩
 ·rw [zgW (show 39 ∉ zkm by decide)];exact hM.m
 ·obtain⟨bb,hlo,hbx,hf,h2⟩:=hM.e (orD hd (by decide));exact⟨bb,hlo,hbx,(zQ (by decide)).trans hf,fun hd=>(zQ (by decide)).trans (h2 (orD hd (by decide)))⟩
theorem zuw (hR:R0N x q c bx cb R0) (hJ:JN x q c bx cb R0 D E w) (h2:D 2=true) (h0:D 0=true) (h1:D 1=true) (h39:D 39=true):zbK (sg 46) zdn 40 E w fun E' w'=>JN x q c bx cb R0 (fun j=>Nat.beq j 40||D j) E' w':=by
 obtain⟨mb,hM⟩:=hJ.mp h2;refine zaJ (x := .tmp 15) (v := .agg (exC x q c).toArray) (hJ.tb _ (mTn 0 rfl) h0) (zaJ (x := .tmp 16) (v:=i64 (x.ev.length:Nat)) (hJ.tb _ (mTn 1 rfl) h1) (zaJ (x := .tmp 43) (v := .map (some mb)) (hM.a h39) ⟨zew x q c mb,zpN (zH x q c) zqE,hJ.ds,zcB hJ.bs (.inl (by decide)) _,hJ.env (show 40 ∉ zj1 by decide) (show 44 ∉ zk7 by decide) _,hJ.bl,fun _=>⟨mb,hM.lo,(zQ (by decide)).trans hM.f,?_,fun hd=>(zQ (by decide)).trans (hM.a (orD hd (by decide))),fun _=>zbD,fun hd=>?_⟩,fun _=>h39,fun _=>rfl,hJ.o3,fun hd=>GD ((zcp (by decide)).symm.trans hd) (by rw [h2];decide)⟩))
 ·rw [zgW (show 40 ∉ zkm by decide)];exact hM.m
 ·obtain⟨bb,hlo,hbx,hf,h2⟩:=hM.e (orD hd (by decide));exact⟨bb,hlo,hbx,(zQ (by decide)).trans hf,fun hd=>(zQ (by decide)).trans (h2 (orD hd (by decide)))⟩
theorem zuv (hR:R0N x q c bx cb R0) (hJ:JN x q c bx cb R0 D E w) (h2:D 2=true) (h40:D 40=true) (h41:D 41=false):zbK (sg 46) zdn 41 E w fun E' w'=>JN x q c bx cb R0 (fun j=>Nat.beq j 41||D j) E' w':=by
 obtain⟨mb,hM⟩:=hJ.mp h2;refine zaJ (x := .tmp 44) (v := .agg (zew x q c mb).toArray) (hM.b h40) ?_;have f1:(w.alloc (.cells (zew x q c mb).toArray 120)).heap[w.heap.size]?=some (.cells (zew x q c mb).toArray 120 (0,0)):=zt w _;have bw:=zba w (.cells (zew x q c mb).toArray 120);refine⟨hJ.ds,zcB hJ.bs (.inl (by decide)) _,hJ.env (show 41 ∉ zj1 by decide) (show 45 ∉ zk7 by decide) _,hJ.bl.trans (bw.mono hJ.bl.size),fun _=>⟨mb,hM.lo,(zQ (by decide)).trans hM.f,?_,fun hd=>(zQ (by decide)).trans (hM.a (orD hd (by decide))),fun hd=>(zQ (by decide)).trans (hM.b (orD hd (by decide))),fun _=>⟨w.heap.size,hJ.bl.size,f1,zbD,fun hd=>?_⟩⟩,hJ.o1,fun _=>h40,fun _=>rfl,fun hd=>GD ((zcp (by decide)).symm.trans hd) (by rw [h2];decide)⟩
 ·rw [zgW (show 41 ∉ zkm by decide)];exact hM.m.below bw
 ·exact GD (hJ.o3 (orD hd (by decide))) (by rw [h41];decide)
theorem zuu (hR:R0N x q c bx cb R0) (hJ:JN x q c bx cb R0 D E w) (h2:D 2=true) (h41:D 41=true):zbK (sg 46) zdn 42 E w fun E' w'=>JN x q c bx cb R0 (fun j=>Nat.beq j 42||D j) E' w':=by
 obtain⟨mb,hM⟩:=hJ.mp h2;obtain⟨bb,hlo,hbx,hf,_⟩:=hM.e h41;refine zaJ (x := .tmp 45) (v:=At0 bb) hf ⟨hJ.ds,zcB hJ.bs (.inr rfl) _,hJ.env (show 42 ∉ zj1 by decide) (show 2 ∉ zk7 by decide) _,hJ.bl,fun _=>⟨mb,hM.lo,(zQ (by decide)).trans hM.f,?_,fun hd=>(zQ (by decide)).trans (hM.a (orD hd (by decide))),fun hd=>(zQ (by decide)).trans (hM.b (orD hd (by decide))),fun _=>⟨bb,hlo,hbx,(zQ (by decide)).trans hf,fun _=>zbD⟩⟩,hJ.o1,hJ.o2,fun _=>h41,fun hd=>GD ((zcp (by decide)).symm.trans hd) (by rw [h2];decide)⟩;rw [zgW (show 42 ∉ zkm by decide)];exact hM.m
theorem JN.d2 (h:JN x q c bx cb R0 D E w) (h39:D 39=true):D 2=true:=by
 cases h2:D 2 with
 | true=>rfl
 | false=>rw [(h.o4 h2).1] at h39;cases h39
theorem zr2 {P:Nat->Prop} (h0:P 0) (h1:P 1) (h2:P 2) (h3:P 3) (h4:P 4) (h5:P 5) (h6:P 6) (h7:P 7) (h8:P 8) (h9:P 9) (h10:P 10) (h11:P 11) (h12:P 12) (h13:P 13) (h14:P 14) (h15:P 15) (h16:P 16) (h17:P 17) (h18:P 18) (h19:P 19) (h20:P 20) (h21:P 21) (h22:P 22) (h23:P 23) (h24:P 24) (h25:P 25) (h26:P 26) (h27:P 27) (h28:P 28) (h29:P 29) (h30:P 30) (h31:P 31) (h32:P 32) (h33:P 33) (h34:P 34) (h35:P 35) (h36:P 36) (h37:P 37) (h38:P 38) (h39:P 39) (h40:P 40) (h41:P 41) (h42:P 42) (hr:∀ i,P (i+43)):∀ i,P i
 | 0=>h0
 | 1=>h1
 | 2=>h2
 | 3=>h3
 | 4=>h4
 | 5=>h5
 | 6=>h6
 | 7=>h7
 | 8=>h8
 | 9=>h9
 | 10=>h10
 | 11=>h11
 | 12=>h12
 | 13=>h13
 | 14=>h14
 | 15=>h15
 | 16=>h16
 | 17=>h17
 | 18=>h18
 | 19=>h19
 | 20=>h20
 | 21=>h21
 | 22=>h22
 | 23=>h23
 | 24=>h24
 | 25=>h25
 | 26=>h26
 | 27=>h27
 | 28=>h28
 | 29=>h29
 | 30=>h30
 | 31=>h31
 | 32=>h32
 | 33=>h33
 | 34=>h34
 | 35=>h35
 | 36=>h36
 | 37=>h37
 | 38=>h38
 | 39=>h39
 | 40=>h40
 | 41=>h41
 | 42=>h42
 | i+43=>hr i
end
theorem zgU (hv:ExV w x q) (hT:Tz64M w):Calls PG 51 #[.agg (exC x q c).toArray] w fun e w'=>∃ bb mb,e = .returned (At0 bb)/\w.heap.size<=bb/\w.heap.size<=mb/\w'.heap[bb]?=some (.cells (zew x q c mb).toArray 120 (0,0))/\MapF zbn w' mb (lkD (fun _=>true) (nwI x))/\Bw w w':=by
 have hn:=hv.n;refine zlU (S:=sg 46) (za9 _) (args:=[.agg (exC x q c).toArray]) (.c (.m .p) (.s (.m .p) (.s (.m .p) (.c (.m .p) (.c .i (.m .p)))))) Tryz.func51 rfl rfl (JS rfl) rfl ?_;refine⟨Unit,fun _=>⟨[(1,At0 w.heap.size)],[]⟩,fun _ X=>ExH X w.heap.size x q c/\Bw w X,⟨(),(cvE rfl rfl),zt w _,zba _ _⟩,?_⟩;rintro _ X ⟨fX,bX⟩;refine⟨_,j4 (za fX),cmo zd0 ?_⟩;rintro e Y ⟨rfl,h⟩;subst h;refine⟨Nat,fun cb=>⟨nwB x w.heap.size cb,[]⟩,fun cb R=>R0N x q c w.heap.size cb R/\Bw w R,?_,?_⟩
 ·refine cmo (zmZ (by omega) (qS _) (qS _)) ?_;rintro e Y ⟨rfl,bY⟩;have b1:=zst bX bY;refine zl (X:=Y) (v := .agg (zf (crX x)).toArray) k30 (zd _) rfl (zB _) fun Z hbZ fZ sZ=>?_;have b2:=zst b1 hbZ;exact⟨Y.heap.size,(cvE rfl rfl),⟨zb hbZ (zb bY fX),fZ,hv.below b2,hT.below b2⟩,b2⟩
 clear fX bX X;rintro cb R0 ⟨hR,b0⟩;refine⟨Nat×Nat,fun y=>⟨[(2,At0 y.1)],[]⟩,fun y X=>w.heap.size<=y.1/\w.heap.size<=y.2/\X.heap[y.1]?=some (.cells (zew x q c y.2).toArray 120 (0,0))/\MapF zbn X y.2 (lkD (fun _=>true) (nwI x))/\Bw w X,?_,?_⟩
 ·refine⟨by kernel_rfl,fun D E w'=>JN x q c w.heap.size cb R0 D E w',?_,?_,?_⟩
  ·exact⟨rfl,.cons rfl (.cons rfl (.cons rfl (.cons rfl .nil))),(fun p _ h=>by cases h),(Gm _ _).drew,(fun h=>by cases h),(fun h=>by cases h),(fun h=>by cases h),(fun h=>by cases h),fun _=>⟨rfl,fun _ _=>rfl⟩⟩
  ·intro D E w' i hJ hD hdep;have key:∀ i,D i=false->zho zdn D i=true->zbK (sg 46) zdn i E w' fun E' w''=>JN x q c w.heap.size cb R0 (fun j=>Nat.beq j i||D j) E' w'':=by
    refine zr2 (P:=fun i=>D i=false->zho zdn D i=true->zbK (sg 46) zdn i E w' fun E' w''=>JN x q c w.heap.size cb R0 (fun j=>Nat.beq j i||D j) E' w'')
     (fun _ hd=>zvH hR hJ hd)
     (fun _ hd=>zvG hR hJ hd)
     (fun hD _=>zvF hR hJ hD)
     (fun _ hd=>zvE hR hJ hd)
     (fun _ hd=>zvD hR hJ hd)
     (fun _ hd=>zvC hR hJ hd)
     (fun _ hd=>zvB hR hJ hd)
     (fun _ hd=>zvA hR hJ hd)
     (fun _ hd=>zvz hR hJ hd)
     (fun _ hd=>zvy hR hJ hd)
     (fun _ hd=>zu0 hR hJ hd)
     (fun _ hd=>zuZ hR hJ hd)
     (fun _ hd=>zuY hR hJ hd)
     (fun _ hd=>zuX hR hJ hd)
     (fun _ hd=>zuW hR hJ hd)
     (fun _ hd=>zuV hR hJ hd)
     (fun _ hd=>zuU hR hJ hd)
     (fun _ hd=>zuT hR hJ hd)
     (fun _ hd=>zuS hR hJ hd)
     (fun _ hd=>zuR hR hJ hd)
     (fun _ hd=>zuQ hR hJ hd)
     (fun _ hd=>zuP hR hJ hd)
     (fun _ hd=>zuO hR hJ hd)
     (fun _ hd=>zuN hR hJ hd)
     (fun _ hd=>zuM hR hJ hd)
     (fun _ hd=>zuL hR hJ hd)
     (fun _ hd=>zuK hR hJ hd)
     (fun _ hd=>zuJ hR hJ hd)
     (fun _ hd=>zuI hR hJ hd)
     (fun _ hd=>zuH hR hJ hd)
     (fun _ hd=>zuG hR hJ hd)
     (fun _ hd=>zuF hR hJ hd)
     (fun _ hd=>zuE hR hJ hd)
     (fun _ hd=>zuD hR hJ hd)
     (fun _ hd=>zuC hR hJ hd)
     (fun _ hd=>zuB hR hJ hd)
     (fun _ hd=>zuA hR hJ hd)
     (fun _ hd=>zuz hR hJ hd)
     (fun _ hd=>zuy hR hJ hd)
     (fun _ hd=>zux hR hJ (jo hd))
     (fun _ hd=>zuw hR hJ (hJ.d2 (jo (zc3 (zc3 hd)))) (jo hd) (jo (zc3 hd)) (jo (zc3 (zc3 hd))))
     (fun hD hd=>zuv hR hJ (hJ.d2 (hJ.o1 (jo hd))) (jo hd) hD)
     (fun hD hd=>zuu hR hJ (hJ.d2 (hJ.o1 (hJ.o2 (jo hd)))) (jo hd))
     ?_
    exact fun i _ _=>trivial
   exact key i hD hdep
  ·intro D E w' hall hJ;obtain⟨mb,hM⟩:=hJ.mp (hall 2 (by decide));obtain⟨bb,hlo,hbx,_,h2⟩:=hM.e (hall 41 (by decide));have e1:lkD D (nwI x)=lkD (fun _=>true) (nwI x):=(zeY fun p hp=>(hall p.1 (ztd p hp)).symm).symm;exact⟨(bb,mb),⟨.cons (h2 (hall 42 (by decide))) .nil,hJ.ds⟩,UX b0.size hlo,UX b0.size hM.lo,hbx,by rw [<- e1];exact hM.m,b0.trans (hJ.bl.mono b0.size)⟩
 rintro⟨bb,mb⟩ X ⟨h1,h2,f1,m1,b1⟩;exact⟨bb,mb,rfl,h1,h2,f1,m1,b1⟩
end
structure WldH (x:ExD) (q:OA) (c bb mb:Nat) (g:Bs->RelD) (Y:Wd):Prop where
 f:Y.heap[bb]?=some (.cells (zew x q c mb).toArray 120 (0,0))
 m:∃ h,MapF zbn Y mb h/\∀ s,(h s).getD (zat zn)=zat (g s)
 w:∀ s,zE (g s).to
 v:ExV Y x q
 t:Tz64M Y
section
variable {x:ExD} {q:OA} {c bb mb:Nat} {g:Bs->RelD} {w Y Z:Wd}
theorem WldH.below (h:WldH x q c bb mb g Y) (hb:Bw Y Z):WldH x q c bb mb g Z:=by
 obtain⟨k,hk,hg⟩:=h.m;exact⟨zb hb h.f,⟨k,hk.below hb,hg⟩,h.w,h.v.below hb,h.t.below hb⟩
def zqs (x:ExD) (q:OA) (c bb mb:Nat) (t:Trm):Prop:=∀ {g:Bs->RelD} {Y:Wd} {p:OA} {cap:Nat},WldH x q c bb mb g Y->KidsT jS Y p t.kids->t.name.length<=140737488351232 ->
 Calls PG 52 #[At0 bb,.agg (ze t p cap).toArray] Y fun e w'=>e = .returned (.agg (zf (valT x g t)).toArray)/\Bw Y w'/\zE (valT x g t).to
theorem zev (x:ExD) (q:OA) (c mb:Nat):(zew x q c mb)[334]?=some (.map (some mb)):=by
 unfold zew;rw [Jl (by rw [zH];decide),zH];rfl
theorem zsM (x:ExD) (q:OA) (c mb:Nat):(zew x q c mb)[333]?=some (i64 (x.ev.length:Nat)):=by
 unfold zew;rw [Jl (by rw [zH];decide),zH];rfl
theorem zsw (h:WldH x q c bb mb g Y) (s:Bs) {w2:Wd} (hb:Bw Y w2):(Instr.lookup 118 (.map (some mb)) (zx s) false).run PG w2 = .ok (zat (g s)) w2:=by
 obtain⟨k,hk,hg⟩:=h.m;have:=zgZ zjB Tryz.underlying118 (z:=zat zn) (zjn (by kernel_rfl)) (hk.below hb) s false;refine this.trans ?_;rw [GB (by decide),hg]
theorem zos (s:Bs) (kids:List Trm):zqs x q c bb mb (.mk 1 s kids):=by
 intro g Y p cap hW hK hl;refine zU 91 [At0 bb,.agg (ze (.mk 1 s kids) p cap).toArray] (.c .p .p) Tryz.func52 ?_;have hv:valT x g (.mk 1 s kids)=g s:=by rw [valT];rfl
 rw [hv];obtain⟨L,hL⟩:=nm (Y.heap.size);refine⟨Unit,fun _=>⟨[(0,At0 bb),(3,At0 L),(4,At0 (L+1))],[]⟩,fun _ X=>X.heap[L]?=some (.cells (ze (.mk 1 s kids) p cap).toArray 24 (0,0))/\zG X (L+1) zn/\Bw Y X,?_,?_⟩
 ·obtain⟨W1,e1⟩:=nm (Y.alloc (.cells (ze (.mk 1 s kids) p cap).toArray 24));have n1:W1.heap.size=L+1:=by rw [e1,hL];exact wz _ _
  have f1:W1.heap[L]?=some (.cells (ze (.mk 1 s kids) p cap).toArray 24 (0,0)):=by rw [e1,hL];exact zt Y _
  have b1:Bw Y W1:=by rw [e1];exact zba _ _
  obtain⟨W2,e2⟩:=nm (W1.alloc (.cells (zf zn).toArray 30));have f2:zG W2 (L+1) zn:=by rw [e2,<- n1];exact zt W1 _
  have b2:Bw W1 W2:=by rw [e2];exact zba _ _
  have key:W2.heap[L]?=some (.cells (ze (.mk 1 s kids) p cap).toArray 24 (0,0))/\zG W2 (L+1) zn/\Bw Y W2:=⟨zb b2 f1,f2,zst b1 b2⟩;rw [e2,e1] at key;refine⟨(),⟨.cons rfl (.cons (by rw [hL];rfl) (.cons ?_ .nil)),rfl⟩,key⟩;show some (At0 (Y.alloc (.cells (ze (.mk 1 s kids) p cap).toArray 24)).heap.size)=_;rw [wz,hL]
 rintro _ X ⟨f1,f0,bX⟩;refine⟨_,zc (za f1) (i:=0) rfl,Gs (fun _=>DrawE.ord [7] [0,1,2,3,4,5,6,7] (by kernel_rfl) ?_) (fun h=>GD (show true=false from h) (by decide))⟩;have hX:=hW.below bX;exact⟨_,zc (za (hdr hX.f)) (i:=334) (zev x q c mb),_,zc (za (hdr f1)) (i:=1) rfl,_,fun w2 hb=>zsw hX s ((Gm _ X).drew.trans hb),zr (v := .agg (zf (g s)).toArray) k30 (hdr f0) (zd _) (zd _) (zB _) ⟨zf (g s),zd _,za (zm (hdr f0)),rfl,zk bX.drew (by omega) _,hW.w s⟩⟩
end
def zv1:Prop:=∀ {r:RelD} {Y:Wd},zE r.to->CB 69 #[.agg (zf r).toArray] Y (.bool (ztk r))
def ze4 (ls:List LineD) (x:ExD):Bool×Bs×Int:=match zlC ls x with
 | none=>(false,[],2)
 | some (b,s)=>(b,s,0)
section
variable {x:ExD} {q p:OA} {c cap bb mb L:Nat} {g:Bs->RelD} {w X Y Z:Wd} {ls:List LineD}
theorem zhl (h:(ju ls).isSome=true):∀ l∈ls,l.kind<=3/\l.name.length<=16/\VT l.term:=by
 unfold ju at h
 split at h
 ·cases h
 ·split at h
  ·cases h
  ·rename_i lets e;exact (zcg ls _ _ 0 lets (fun s hs=>by cases hs) (by decide) e).1
theorem zbH:zE zn.to:=fun i _=>(by show 0<2^64;decide)
theorem jy {P:Prop} [Decidable P] {a b:RelD} (h1:P->zE a.to) (h2:¬ P->zE b.to):zE (if P then a else b).to:=by
 by_cases h:P
 ·rw [GC h];exact h1 h
 ·rw [GB h];exact h2 h
theorem zhZ (hv:ExV w x q) (hT:Tz64M w) (s:Bs):zE (qr x s).to:=by
 have hn:=hv.n;have loc:zE (zrm x).to:=zeM (by omega);have it:∀ r,zbf x r=true->zE (zfF x r).to/\zE (zi5 x r).to:=fun r h=>by
  have:=(zel h).2.1;exact⟨zeM (by omega),zeM (by omega)⟩
 have idw:zE (idR x.ev.length (jb x.ev.length)).to:=zbF fun i _ _=>KG Uc (qS _);exact jy (fun _=>hv.po) fun _=>jy (fun _=>hv.rf) fun _=>jy (fun _=>hv.co) fun _=>jy (fun _=>hv.rm) fun _=>jy (fun _=>hv.dt) fun _=>jy (fun _=>hv.ct) fun _=>jy (fun _=>jy (fun _=>(zpL hv hT).2) fun _=>zbH) fun _=>jy (fun _=>jy (fun _=>loc) fun _=>zbH) fun _=>jy (fun _=>idw) fun _=>jy (fun _=>jy (fun h=>(it _ h).1) fun _=>zbH) fun _=>jy (fun _=>jy (fun h=>(it _ h).2) fun _=>zbH) fun _=>zbH
theorem zj5 (s:Bs):(lkD (fun _=>true) (nwI x) s).getD (zat zn)=zat (qr x s):=by
 unfold qr;simp only [lkD,nwI,crX,GA];by_cases h1:s=[112,111]
 ·simp only [GC h1,QG]
 by_cases h2:s=[114,102]
 ·simp only [GB h1,GC h2,QG]
 by_cases h3:s=[99,111]
 ·simp only [GB h1,GB h2,GC h3,QG]
 by_cases h4:s=[114,109,119]
 ·simp only [GB h1,GB h2,GB h3,GC h4,QG]
 by_cases h5:s=[100,97,116,97]
 ·simp only [GB h1,GB h2,GB h3,GB h4,GC h5,QG]
 by_cases h6:s=[99,116,114,108]
 ·simp only [GB h1,GB h2,GB h3,GB h4,GB h5,GC h6,QG]
 by_cases h7:s=[102,114]
 ·simp only [GB h1,GB h2,GB h3,GB h4,GB h5,GB h6,GC h7,QG]
 by_cases h8:s=[108,111,99]
 ·simp only [GB h1,GB h2,GB h3,GB h4,GB h5,GB h6,GB h7,GC h8,QG]
 by_cases h9:s=[105,100]
 ·simp only [GB h1,GB h2,GB h3,GB h4,GB h5,GB h6,GB h7,GB h8,GC h9,QG]
 by_cases h10:s=[101,120,116]
 ·simp only [GB h1,GB h2,GB h3,GB h4,GB h5,GB h6,GB h7,GB h8,GB h9,GC h10,QG]
 by_cases h11:s=[105,110,116]
 ·simp only [GB h1,GB h2,GB h3,GB h4,GB h5,GB h6,GB h7,GB h8,GB h9,GB h10,GC h11,QG]
 simp only [GB h1,GB h2,GB h3,GB h4,GB h5,GB h6,GB h7,GB h8,GB h9,GB h10,GB h11,Option.getD_none]
theorem WldH.put (h:WldH x q c bb mb g Y) (hv:ExV w x q) (hT:Tz64M w) (hb:Bw w Y) (hmb:w.heap.size<=mb) (nq:Bs) {r:RelD} (hr:zE r.to) {K:Wd->Prop} (k:∀ V,WldH x q c bb mb (zly g nq r) V->Bw w V->(∀ (j:Nat) (cs:Array Value) (t:TypeId) (fr:Nat×Nat),Y.heap[j]?=some (Obj.cells cs t fr)->V.heap[j]?=some (Obj.cells cs t fr))->K V) :
  SatR ((Instr.mapUpdate 118 (.map (some mb)) (zx nq) (zat r)).run PG Y) fun _ w'=>K w':=by
 obtain⟨f,hf,hg⟩:=h.m;obtain⟨o,hrun,hm⟩:=qq zjB Tryz.underlying118 hf nq (zat r);have hne:∀ j,(∃ (cs:Array Value) (t:TypeId) (fr:Nat×Nat),Y.heap[j]?=some (Obj.cells cs t fr))->j≠mb:=by
  intro j hj0 e;subst e;obtain⟨cs,t,fr,hj⟩:=hj0;obtain⟨es,cl,hh,_⟩:=hf;rw [hh] at hj;cases hj
 have hput:∀ (j:Nat) (cs:Array Value) (t:TypeId) (fr:Nat×Nat),Y.heap[j]?=some (Obj.cells cs t fr)->(Y.putObj mb o).heap[j]?=some (Obj.cells cs t fr):=fun j cs t fr hj=>(zj (hne j ⟨_,_,_,hj⟩)).trans hj;have bV:Bw w (Y.putObj mb o):=z8 hb hmb o;refine⟨_,_,hrun,k _ ⟨hput _ _ _ _ h.f,⟨_,hm,fun s=>?_⟩,fun s=>jy (fun _=>hr) fun _=>h.w s,hv.below bV,hT.below bV⟩ bV hput⟩;unfold zly;by_cases hs:s=nq
 ·rw [GC hs,GC hs];rfl
 ·rw [GB hs,GB hs];exact hg s
structure HoM (w:Wd) (ls:List LineD) (p:OA) (cap:Nat) (x:ExD) (q:OA) (c L:Nat) (X:Wd):Prop where
 m:X.heap[L]?=some (.cells #[.slice p ls.length cap] 47 (0,0))
 e:ExH X (L+1) x q c
 b:Bw w X
theorem HoM.below (h:HoM w ls p cap x q c L X) (hb:Bw X Y):HoM w ls p cap x q c L Y:=⟨zb hb h.m,zb hb h.e,h.b.trans (hb.mono h.b.size)⟩
theorem zl4 (hg:GlobK w) (hM:LinsM jS w p ls) (hlen:ls.length<=140737488351232) (hv:ExV w x q) (hT:Tz64M w) (hval:∀ bb mb,∀ l∈ls,VT l.term->zqs x q c bb mb l.term) (hirr:∀ l∈ls,l.kind=2->zv1) :
  CB 29 #[.agg #[.slice p ls.length cap],.agg (exC x q c).toArray] w (.tuple #[.bool (ze4 ls x).1,zx (ze4 ls x).2.1,i64 (ze4 ls x).2.2]):=by
 refine zU 61 [.agg #[.slice p ls.length cap],.agg (exC x q c).toArray] (.c .p (.c (.s .p .p) (.c .p (.s (.s .p (.b (.l (.s .p (.s .p (.s (.b (.c .p (.c .p (.s .p (.c (.s .p (.b .p)) (.s .p .p)))))) .p)))))) .p)))) Tryz.func29 ?_;obtain⟨L,hL⟩:=nm (w.heap.size);refine⟨Unit,fun _=>⟨[(2,At0 L),(3,At0 (L+1))],[]⟩,fun _ X=>HoM w ls p cap x q c L X,?_,?_⟩
 ·obtain⟨W1,e1⟩:=nm (w.alloc (.cells #[.slice p ls.length cap] 47));have n1:W1.heap.size=L+1:=by rw [e1,hL];exact wz _ _
  have f1:W1.heap[L]?=some (.cells #[.slice p ls.length cap] 47 (0,0)):=by rw [e1,hL];exact zt w _
  have b1:Bw w W1:=by rw [e1];exact zba _ _
  obtain⟨W2,e2⟩:=nm (W1.alloc (.cells (exC x q c).toArray 37));have f2:ExH W2 (L+1) x q c:=by rw [e2,<- n1];exact zt W1 _
  have b2:Bw W1 W2:=by rw [e2];exact zba _ _
  have key:HoM w ls p cap x q c L W2:=⟨zb b2 f1,f2,zst b1 b2⟩;rw [e2,e1] at key;refine⟨(),⟨.cons (by rw [hL];rfl) (.cons ?_ .nil),rfl⟩,key⟩;show some (At0 (w.alloc (.cells #[.slice p ls.length cap] 47)).heap.size)=_;rw [wz,hL]
 rintro _ X hX;have no:((ju ls).isSome&&zY x)=false->ze4 ls x=(false,[],2):=fun h=>by unfold ze4 zlC;rw [h];rfl
 refine⟨Unit,fun _=>⟨[(2,At0 L),(3,At0 (L+1))],[]⟩,fun _ X=>HoM w ls p cap x q c L X/\(ju ls).isSome=true/\zY x=true,?_,?_⟩
 ·refine⟨_,rfl,za hX.m,hlt hX.m,cmo (zl3 (cap:=cap) (hg.below hX.b) (hM.below hX.b) hlen) ?_⟩;rintro e Y ⟨rfl,bY⟩;have hY:=hX.below bY;refine biE (fun h=>?_) fun h=>?_
  ·have h:(!(ju ls).isSome)=true:=h;refine brT ?_;rw [no (by rw [zft h];rfl)];exact⟨rfl,hY.b⟩
  ·have h:(!(ju ls).isSome)=false:=h;refine⟨exC x q c,zH _ _ _,za hY.e,hlt hY.e,cmo (zdD (hv.below hY.b) (hT.below hY.b)) ?_⟩;rintro e Z ⟨rfl,bZ⟩;have hZ:=hY.below bZ;refine biE (fun h2=>?_) fun h2=>?_
   ·have h2:(!zY x)=true:=h2;rw [no (by rw [zft h2,Um])];exact⟨rfl,hZ.b⟩
   ·have h2:(!zY x)=false:=h2;exact⟨(),(cvE rfl rfl),hZ,zed h,zed h2⟩
 clear hX X;rintro _ X ⟨hX,hsome,hright⟩;have hkinds:=zhl hsome;have hres:ze4 ls x=((zdY x (qr x) ls).1,(zdY x (qr x) ls).2,0):=by
  unfold ze4 zlC;rw [hsome,hright];rfl
 rw [hres];obtain⟨R,hR⟩:=nm (zdY x (qr x) ls);rw [<- hR];refine⟨Nat×Nat,fun y=>⟨[(2,At0 L),(7,At0 y.1)],[]⟩,fun y X=>HoM w ls p cap x q c L X/\w.heap.size<=y.2/\WldH x q c y.1 y.2 (qr x) X,?_,?_⟩
 ·refine⟨exC x q c,zH _ _ _,za hX.e,hlt hX.e,cmo (zgU (hv.below hX.b) (hT.below hX.b)) ?_⟩;rintro e Y ⟨bb,mb,rfl,h1,h2,f1,m1,b1⟩;have hY:=hX.below b1;exact⟨(bb,mb),(cvE rfl rfl),hY,UX hX.b.size h2,f1,⟨_,m1,zj5⟩,zhZ hv hT,hv.below hY.b,hT.below hY.b⟩
 clear hX X;rintro⟨bb,mb⟩ X ⟨hX,hmb,hW⟩;dsimp only at hmb hW ⊢;refine⟨_,zc (za hX.m) (i:=0) rfl,Nat×(Bs->RelD),fun y=>⟨[(2,At0 L),(7,At0 bb),(23,.slice p ls.length cap),(24,i64 (ls.length:Nat)),(25,.int .i64 (y.1:Nat))],[]⟩,fun y X=>HoM w ls p cap x q c L X/\WldH x q c bb mb y.2 X/\y.1<=ls.length/\R=zdY x y.2 (ls.drop y.1),fun y=>ls.length-y.1,(0,qr x),(cvE rfl rfl),⟨hX,hW,Gj _,hR⟩,?_⟩;clear hX hW hR hres X;rintro⟨i,g⟩ X ⟨hX,hW,hi,hR⟩;dsimp only at hW hi hR ⊢;refine biE (fun hc=>?_) fun hc=>?_
 ·have hc:(i:Int)<(ls.length:Int):=dT hc;have hil:i<ls.length:=by omega
  rw [Jo hil,zdY] at hR;obtain⟨u,hu⟩:=nm (ls[i]);have hum:u∈ls:=by rw [hu];exact gM hil
  rw [<- hu] at hR;obtain⟨k3,kn,kv⟩:=hkinds u hum;obtain⟨b1,o1,q1,c1,rfl,e1,s1,_,_,m1,kk⟩:=(hM.below hX.b).line hil;rw [<- hu] at e1 m1 kk;refine⟨Nat,fun b9=>⟨[(2,At0 L),(7,At0 bb),(9,At0 b9),(23,.slice (some ⟨b1,o1,none⟩) ls.length cap),(24,i64 (ls.length:Nat)),(25,.int .i64 (i:Nat))],[]⟩,fun b9 Y=>HoM w ls (some ⟨b1,o1,none⟩) cap x q c L Y/\WldH x q c bb mb g Y/\Y.heap[b9]?=some (.cells (zA u.kind u.name u.term q1 c1).toArray 49 (0,0))/\KidsT jS Y q1 u.term.kids,?_,?_⟩
  ·exact⟨i,rfl,hil,_,rfl,e1,s1,zl (X:=X) (v := .agg (zA u.kind u.name u.term q1 c1).toArray) k49 rfl rfl rfl fun Y hbY fY sY=>⟨X.heap.size,(cvE rfl rfl),hX.below hbY,hW.below hbY,fY,kk.kept hbY⟩⟩
  clear hX hW e1 s1 kk X;rintro b9 X ⟨hX,hW,fx,kk⟩;obtain⟨v,hv'⟩:∃ v,v=valT x g u.term:=⟨_,rfl⟩;rw [<- hv'] at hR;refine⟨Nat,fun b10=>⟨[(2,At0 L),(7,At0 bb),(9,At0 b9),(10,At0 b10),(23,.slice (some ⟨b1,o1,none⟩) ls.length cap),(24,i64 (ls.length:Nat)),(25,.int .i64 (i:Nat))],[]⟩,fun b10 Y=>HoM w ls (some ⟨b1,o1,none⟩) cap x q c L Y/\WldH x q c bb mb g Y/\Y.heap[b9]?=some (.cells (zA u.kind u.name u.term q1 c1).toArray 49 (0,0))/\zG Y b10 v/\zE v.to,?_,?_⟩
  ·have t1:zq X ⟨b9,0+2,none⟩ (ze u.term q1 c1):=q9 (o:=2) (n:=3) fx;refine⟨_,rfl,t1,hlt fx,cmo (hval bb mb u hum kv hW kk m1) ?_⟩;rintro e Y ⟨rfl,bY,hw⟩;rw [<- hv'] at hw ⊢;exact zl (X:=Y) (v := .agg (zf v).toArray) k30 (zd _) (by kernel_rfl) (zB _) fun Z hbZ fZ sZ=>⟨Y.heap.size,(cvE rfl rfl),(hX.below bY).below hbZ,(hW.below bY).below hbZ,zb hbZ (zb bY fx),fZ,hw⟩
  clear hX hW fx kk X;rintro b10 X ⟨hX,hW,fx,fv,hw⟩;refine⟨Bool×(Bs->RelD),fun y=>⟨[(2,At0 L),(7,At0 bb),(9,At0 b9),(11,.bool y.1),(23,.slice (some ⟨b1,o1,none⟩) ls.length cap),(24,i64 (ls.length:Nat)),(25,.int .i64 (i:Nat))],[]⟩,fun y Y=>HoM w ls (some ⟨b1,o1,none⟩) cap x q c L Y/\WldH x q c bb mb y.2 Y/\Y.heap[b9]?=some (.cells (zA u.kind u.name u.term q1 c1).toArray 49 (0,0))/\R=(if y.1=true then zdY x y.2 (ls.drop (i+1)) else (false,u.name)),?_,?_⟩
  ·refine⟨_,zc (za fx) (i:=0) rfl,biE (fun h0=>?_) fun h0=>?_⟩
   ·have h0:((u.kind:Nat):Int)=0:=dT h0;rw [GC (by omega)] at hR;have bd:=(Gm X.heap.size X).drew;exact DrawE.ord [7] [0,1,2,3,4,5,6,7] (by kernel_rfl) ⟨_,zc (za (hdr hW.f)) (i:=334) (zev x q c mb),_,zc (za (hdr fx)) (i:=1) rfl,zf v,zd _,za (hdr fv),hlt (hdr fv),WldH.put (hW.below bd) hv hT hX.b.drew hmb u.name hw fun V hV bV keep=>⟨(true,zly g u.name v),(cvE rfl rfl),⟨keep _ _ _ _ (hdr hX.m),keep _ _ _ _ (hdr hX.e),bV⟩,hV,keep _ _ _ _ (hdr fx),hR⟩⟩
   have h0:¬ ((u.kind:Nat):Int)=0:=dF h0;rw [GB (by omega)] at hR;refine biE (fun h1=>?_) fun h1=>?_
   ·have h1:((u.kind:Nat):Int)=1:=dT h1;rw [GC (by omega:u.kind=1)] at hR;refine⟨zf v,zd _,za fv,hlt fv,cmo (ziE hw (hW.t)) ?_⟩;rintro e Y ⟨rfl,bY⟩;exact⟨(zjj v,g),(cvE rfl rfl),hX.below bY,hW.below bY,zb bY fx,by rw [hR]⟩
   have h1:¬ ((u.kind:Nat):Int)=1:=dF h1;rw [GB (by omega:¬ u.kind=1)] at hR;refine biE (fun h2=>?_) fun h2=>?_
   ·have h2:((u.kind:Nat):Int)=2:=dT h2;rw [GC (by omega:u.kind=2)] at hR;refine⟨zf v,zd _,za fv,hlt fv,cmo (hirr u hum (by omega) hw) ?_⟩;rintro e Y ⟨rfl,bY⟩;exact⟨(ztk v,g),(cvE rfl rfl),hX.below bY,hW.below bY,zb bY fx,by rw [hR]⟩
   have h2:¬ ((u.kind:Nat):Int)=2:=dF h2;rw [GB (by omega:¬ u.kind=2)] at hR;refine biE (fun h3=>?_) fun h3=>?_
   ·refine⟨zf v,zd _,za fv,hlt fv,cmo (zmY hw) ?_⟩;rintro e Y ⟨rfl,bY⟩;exact⟨(zdy v,g),(cvE rfl rfl),hX.below bY,hW.below bY,zb bY fx,by rw [hR]⟩
   ·have h3:¬ ((u.kind:Nat):Int)=3:=dF h3;omega
  clear hX hW fx fv hR X;rintro⟨ok,g2⟩ X ⟨hX,hW,fx,hR⟩;dsimp only at hW hR ⊢;refine biE (fun h=>?_) fun h=>?_
  ·have h:(!ok)=true:=h;rw [zft h,GB (by decide)] at hR;refine DrawE.ord [] [0,1,2,3,4] (by kernel_rfl) ⟨_,zc (za (hdr fx)) (i:=1) rfl,?_⟩;rw [hR];exact⟨rfl,hX.b.drew⟩
  ·have h:(!ok)=false:=h;rw [zed h,GC rfl] at hR;exact nxI (by omega) ⟨(i+1,g2),(cvE rfl rfl),⟨hX,hW,hil,hR⟩,zdc (by omega)⟩
 ·have hc:¬ (i:Int)<(ls.length:Int):=dF hc;rw [JA (by omega),zdY] at hR;rw [hR];exact⟨rfl,hX.b⟩
end
section
variable {n:Nat} {r:RelD}
theorem zeI (h:okR r=true) (hw:zE r.to):RelOk r.n.toNat r:=by
 obtain⟨p0,p48,_⟩:=qy h;exact⟨by omega,h,hw⟩
theorem zjA (h:RelOk n r):sqR r=(zX r (zbq r r).1).1:=by
 have h2:=h.then h;unfold sqR zX;rw [zbz h h2];have hn:r.n.toNat=n:=by have:=h.n;omega
 rw [hn];unfold ji;congr 1;funext i;by_cases hi:i<n
 ·rw [GC hi,GC hi];unfold zbq;rw [zbz h h];show (r.to i|||zaS r.to (r.to i))=(r.to i|||(if i<n then zaS r.to (r.to i) else 0));rw [GC hi]
 ·rw [GB hi,GB hi]
theorem RelOk.sq (h:RelOk n r):RelOk n (sqR r):=by rw [zjA h];exact h.union (h.then h)
theorem zoJ (h:RelOk n r) {i j:Nat} (hb:qN r i j=true) (hi:i<48):qN (sqR r) i j=true:=by
 rw [zjA h,zhN h (h.then h) (h.bit hi hb).1,hb];rfl
def zgF:List (Nat×Nat):=(List.range 48).flatMap fun i=>(List.range 48).map fun j=>(i,j)
theorem zq7:zgF.length=2304:=by kernel_rfl
theorem zq6 {i j:Nat} (hi:i<48) (hj:j<48):(i,j)∈zgF :=
 List.mem_flatMap.2 ⟨i,Ut.2 hi,US.2 ⟨j,Ut.2 hj,rfl⟩⟩
theorem zs5 {p:Nat×Nat} (h:p∈zgF):p.1<48/\p.2<48:=by
 obtain⟨i,hi,h⟩:=List.mem_flatMap.1 h;obtain⟨j,hj,rfl⟩:=US.1 h;exact⟨Ut.1 hi,Ut.1 hj⟩
def zn5 (r:RelD):Nat:=(zgF.filter fun p=>qN r p.1 p.2).length
theorem ztO (r:RelD):zn5 r<=2304:=by
 have:=JL (fun p:Nat×Nat=>qN r p.1 p.2) zgF;rw [zq7] at this;exact this
theorem ztN (h:RelOk n r) (hne:eqR (sqR r) r=false):zn5 r<zn5 (sqR r):=by
 have hs:=h.sq;have h48:=h.le;have e:zgF.filter (fun p=>qN r p.1 p.2)=(zgF.filter fun p=>qN (sqR r) p.1 p.2).filter fun p=>qN r p.1 p.2:=by
  rw [Kx];refine KT fun p hp=>?_
  cases hb:qN r p.1 p.2 with
  | false=>rfl
  | true=>rw [zoJ h hb (zs5 hp).1];rfl
 unfold zn5;rw [e];refine List.length_filter_lt_length_iff_exists.2 ?_;unfold eqR at hne;rw [Ux (p:=(sqR r).n=r.n) (hs.n.trans h.n.symm),UD,KO] at hne;obtain⟨i,hi,hd⟩:=hne;have hi:=Ut.1 hi;have hd:¬ (sqR r).to i=r.to i:=fun e=>hd (Ux e);obtain⟨j,hj⟩:∃ j,((sqR r).to i).testBit j≠(r.to i).testBit j:=by
  exact Jn fun hn=>hd (Ka fun j=>Jn fun h=>hn ⟨j,h⟩)
 have h1:qN r i j=false:=by
  cases hb:qN r i j with
  | false=>rfl
  | true=>exact GD ((zoJ h hb hi).trans hb.symm) hj
 have h2:qN (sqR r) i j=true:=by
  cases hb:qN (sqR r) i j with
  | true=>rfl
  | false=>exact GD (hb.trans h1.symm) hj
 have hb:=hs.bit hi h2;exact⟨(i,j),QX.2 ⟨zq6 hi (by omega),h2⟩,by show ¬ qN r i j=true;rw [h1];decide⟩
theorem RelOk.plusF:∀ (f:Nat) {r:RelD},RelOk n r->RelOk n (plusF f r)
 | 0,r,h=>h
 | f+1,r,h=>by
  rw [Go.Proofs.YtnadlhpkpnfmbaaGreatDoor.plusF]
  split
  ·exact h
  ·exact RelOk.plusF f h.sq
theorem RelOk.plus (h:RelOk n r):RelOk n (jl r):=by
 unfold jl;rw [GC h.ok];exact RelOk.plusF 2400 h
end
section
variable {w:Wd} {r:RelD}
theorem ztn {r:RelD} (hr:zE r.to) {s:Nat} (h48:∀ j∈els s,j<48):zaS r.to s<2^64:=zhe hr (els s) 0 (by decide) h48
theorem zsg {b i:Nat} (f:w.heap[b]?=some (.cells (zf r).toArray 30 (0,0))) (hr:zE r.to) (hi:i<48) (h48:∀ j∈els (r.to i),j<48) (hT:Tz64M w) :
  CB 61 (i64 (i:Nat)::[At0 b]).toArray w (s64 (r.to i|||zaS r.to (r.to i))):=by
 refine zI 14 (i64 (i:Nat)::[At0 b]) Tryz.func61 ?_;have bd:=(Gm w.heap.size w).drew;refine DrawE.ord [] [0,1,2,3,4,5,6,7,8,9,10] (by kernel_rfl) ⟨i,rfl,hi,_,jx (hdr f) hi,i,rfl,hi,_,jx (hdr f) hi,cmo (zmC (hdr f) hr (hr i hi) h48 (hT.below bd)) ?_⟩;rintro e Y ⟨rfl,hb⟩;exact⟨hb,_,jZ (hr i hi) (ztn hr h48),rfl,(zst bd hb)⟩
theorem zhB (hr:zE r.to) (hT:Tz64M w):CB 22 #[.agg (zf r).toArray] w (.agg (zf (jl r)).toArray):=by
 refine zU 17 [.agg (zf r).toArray] (.c .p (.s (.s .p .p) (.b (.l (.b (.c .p (.s (.s .p .p) .p))))))) Tryz.func22 ?_;obtain⟨L,hL⟩:=nm (w.heap.size);refine⟨Unit,fun _=>⟨[(1,At0 L),(2,At0 (L+1))],[]⟩,fun _ X=>zG X L r/\zG X (L+1) zn/\Bw w X,?_,?_⟩
 ·obtain⟨W1,e1⟩:=nm (w.alloc (.cells (zf r).toArray 30));have n1:W1.heap.size=L+1:=by rw [e1,hL];exact wz _ _
  have f1:zG W1 L r:=by rw [e1,hL];exact zt w _
  have b1:Bw w W1:=by rw [e1];exact zba _ _
  obtain⟨W2,e2⟩:=nm (W1.alloc (.cells (zf zn).toArray 30));have f2:zG W2 (L+1) zn:=by rw [e2,<- n1];exact zt W1 _
  have b2:Bw W1 W2:=by rw [e2];exact zba _ _
  have key:zG W2 L r/\zG W2 (L+1) zn/\Bw w W2:=⟨zb b2 f1,f2,zst b1 b2⟩;rw [e2,e1] at key;refine⟨(),⟨.cons (by rw [hL];rfl) (.cons ?_ .nil),rfl⟩,key⟩;show some (At0 (w.alloc (.cells (zf r).toArray 30)).heap.size)=_;rw [wz,hL]
 rintro _ X ⟨f0,f1,hbX⟩;refine⟨zf r,zd _,za f0,hlt f0,cmo (qA hr) ?_⟩;rintro e Y ⟨rfl,hbY⟩;have bY:=zst hbX hbY;have g0:=zb hbY f0;have g1:=zb hbY f1;refine biE (fun h=>?_) fun h=>?_
 ·have h:(!okR r)=true:=h;have e:jl r=zn:=by unfold jl;rw [GB (by rw [zft h];decide)]
  rw [e];refine⟨zf zn,by kernel_rfl,?_⟩;exact zW g1 (by omega) bY fun Z fZ bZ=>⟨zf zn,zd _,za fZ,rfl,bZ⟩
 have h:(!okR r)=false:=h;have hok:okR r=true:=zed h;obtain⟨n,hn⟩:=nm (r.n.toNat);have hR:RelOk n r:=by rw [hn];exact zeI hok hr
 have e:jl r=plusF 2400 r:=by unfold jl;rw [GC hok]
 rw [e];obtain⟨R,hRR⟩:=nm (plusF 2400 r);rw [<- hRR];refine⟨RelD×Nat,fun y=>⟨[(1,At0 L),(2,At0 (L+1))],[]⟩,fun y X=>zG X L y.1/\zG X (L+1) zn/\Bw w X/\RelOk n y.1/\R=plusF y.2 y.1/\2400<=zn5 y.1+y.2,fun y=>y.2,(r,2400),(cvE rfl rfl),⟨g0,g1,bY,hR,hRR,by omega⟩,?_⟩;clear g0 g1 bY hRR e hbY f0 f1 hbX hR hok;rintro⟨c,f⟩ X ⟨g0,g1,bX,hR,hRR,hf⟩;dsimp only at g0 hR hRR hf ⊢;have hcl:=ztO c;obtain⟨f',rfl⟩:∃ f',f=f'+1:=⟨f-1,by omega⟩;have h48:=hR.le;refine⟨Nat,fun b3=>⟨[(1,At0 L),(2,At0 (L+1)),(3,At0 b3)],[]⟩,fun b3 Z=>zG Z L c/\zG Z (L+1) zn/\zG Z b3 (sqR c)/\Bw w Z,?_,?_⟩
 ·refine⟨i64 c.n,by have:=zc (za g0) (i:=0) (v:=i64 c.n) rfl;exact this,?_⟩;have en:(c.n:Int)=((n:Nat):Int):=hR.n;rw [en];refine cmo (zgr (n:=n) (row:=fun a=>c.to a|||zaS c.to (c.to a)) h48 (by kernel_rfl) fun a V ha hV=>?_) ?_
  ·exact zsg (zb hV g0) hR.w (by omega) (fun j hj=>(zgh hR.ok hR.w (by omega) j hj).2) ((hT.below bX).below hV)
  rintro e V ⟨rfl,bV⟩;have es:ji n (fun a=>c.to a|||zaS c.to (c.to a))=sqR c:=by unfold sqR;rw [en,KN]
  rw [es];refine zl (X:=V) (v := .agg (zf (sqR c)).toArray) k30 (zd _) (by kernel_rfl) (zB _) fun Z hbZ fZ sZ=>?_;have b1:=zst bX bV;exact⟨V.heap.size,(cvE rfl rfl),zb hbZ (zb bV g0),zb hbZ (zb bV g1),fZ,zst b1 hbZ⟩
 clear g0 g1 bX X;rintro b3 X ⟨g0,g1,g3,bX⟩;rw [plusF] at hRR;refine⟨zf (sqR c),zd _,za g3,hlt g3,zf c,zd _,za g0,hlt g0,_,fun w=>zja _ _ _ _ w,biE (fun h=>?_) fun h=>?_⟩
 ·have h:eqR (sqR c) c=true:=h;rw [GC h] at hRR;refine⟨zf c,zd _,za g0,hlt g0,?_⟩;rw [hRR];exact zW g1 (by omega) bX fun Z fZ bZ=>⟨zf c,zd _,za fZ,rfl,bZ⟩
 ·have h:eqR (sqR c) c=false:=h;rw [GB (by rw [h];decide)] at hRR;have hc:=ztN hR h;exact⟨zf (sqR c),zd _,za g3,hlt g3,zr (v := .agg (zf (sqR c)).toArray) k30 g0 (zd _) (zd _) (zB _) ⟨(sqR c,f'),(cvE rfl rfl),⟨zm g0,(zp (by omega)).trans g1,zk bX (by omega) _,hR.sq,hRR,by show 2400<=zn5 (sqR c)+f';omega⟩,by show f'<f'+1;omega⟩⟩
end
section
variable {n:Nat} {w:Wd} {r:RelD}
theorem RelOk.idr (h:n<=48) (s:Nat):RelOk n (idR n s) := .of rfl h (fun i j hi hb=>by
  unfold idR at hb;rw [za3,bAT,dE,Uf,Ko,bAT,dE] at hb;obtain⟨h1,_,h2⟩:=hb;omega) (zbF fun i _ h=>KG Qz (zV (by omega)))
theorem RelOk.star (h:RelOk n r):RelOk n (za8 r):=by
 unfold za8;rw [GC h.ok];have hn:r.n.toNat=n:=by have:=h.n;omega
 rw [hn];exact h.plus.union (.idr h.le _)
abbrev qF:Obj := .cells (zue).toArray 30
theorem zhA (hr:zE r.to) (hT:Tz64M w):CB 23 #[.agg (zf r).toArray] w (.agg (zf (za8 r)).toArray):=by
 refine zU 22 [.agg (zf r).toArray] (.c .p (.s (.s .p .p) (.c .p .p))) Tryz.func23 ?_;obtain⟨L,hL⟩:=nm (w.heap.size);refine⟨Unit,fun _=>⟨[(1,At0 L),(2,At0 (L+1))],[]⟩,fun _ X=>zG X L r/\zG X (L+1) zn/\Bw w X,?_,?_⟩
 ·obtain⟨W1,e1⟩:=nm (w.alloc (.cells (zf r).toArray 30));have n1:W1.heap.size=L+1:=by rw [e1,hL];exact wz _ _
  have f1:zG W1 L r:=by rw [e1,hL];exact zt w _
  have b1:Bw w W1:=by rw [e1];exact zba _ _
  obtain⟨W2,e2⟩:=nm (W1.alloc (.cells (zf zn).toArray 30));have f2:zG W2 (L+1) zn:=by rw [e2,<- n1];exact zt W1 _
  have b2:Bw W1 W2:=by rw [e2];exact zba _ _
  have key:zG W2 L r/\zG W2 (L+1) zn/\Bw w W2:=⟨zb b2 f1,f2,zst b1 b2⟩;rw [e2,e1] at key;refine⟨(),⟨.cons (by rw [hL];rfl) (.cons ?_ .nil),rfl⟩,key⟩;show some (At0 (w.alloc (.cells (zf r).toArray 30)).heap.size)=_;rw [wz,hL]
 rintro _ X ⟨f0,f1,hbX⟩;refine⟨zf r,zd _,za f0,hlt f0,cmo (qA hr) ?_⟩;rintro e Y ⟨rfl,hbY⟩;have bY:=zst hbX hbY;have g0:=zb hbY f0;have g1:=zb hbY f1;refine biE (fun h=>?_) fun h=>?_
 ·have h:(!okR r)=true:=h;have e:za8 r=zn:=by unfold za8;rw [GB (by rw [zft h];decide)]
  rw [e];refine⟨zf zn,by kernel_rfl,?_⟩;exact zW g1 (by omega) bY fun Z fZ bZ=>⟨zf zn,zd _,za fZ,rfl,bZ⟩
 have h:(!okR r)=false:=h;have hok:okR r=true:=zed h;obtain⟨n,hn⟩:=nm (r.n.toNat);have hR:RelOk n r:=by rw [hn];exact zeI hok hr
 have h48:=hR.le;have en:(r.n:Int)=((n:Nat):Int):=hR.n;have e:za8 r=(zX (jl r) (idR n (jk n))).1:=by
  unfold za8;rw [GC hok,<- hn,en];rfl
 rw [e];refine⟨Nat,fun b3=>⟨[(2,At0 (L+1)),(3,At0 b3)],[]⟩,fun b3 Z=>zG Z (L+1) zn/\zG Z b3 (zX (jl r) (idR n (jk n))).1/\Bw w Z,?_,?_⟩
 ·clear f0 f1 hbX hbY;have bd:=(Gm Y.heap.size Y).drew;have hc:Y.drew.cell? ⟨L,0+0,none⟩=some (i64 (n:Nat)):=by rw [<- en];exact zc (za (hdr g0)) (i:=0) rfl
  have hw1:=hR.plus.w;have hw2:=(RelOk.idr h48 (jk n)).w;refine DrawE.treeQ [13] (.op 0 (.op 2 (.op 3 (.op 4 (.op 5 (.alt (.op 1 (.alt (.op 6 (.alt (.op 7 (.alt (.op 8 (.op 9 (.op 10 (.op 11 (.op 12 (.op 13 (.op 14 (.nil)))))))) (.op 12 (.op 8 (.op 9 (.op 10 (.op 11 (.op 13 (.op 14 (.nil)))))))))) (.op 12 (.op 7 (.op 8 (.op 9 (.op 10 (.op 11 (.op 13 (.op 14 (.nil))))))))))) (.op 12 (.op 6 (.op 7 (.op 8 (.op 9 (.op 10 (.op 11 (.op 13 (.op 14 (.nil)))))))))))) (.op 12 (.op 1 (.op 6 (.op 7 (.op 8 (.op 9 (.op 10 (.op 11 (.op 13 (.op 14 (.nil))))))))))))))))) (by kernel_rfl) ⟨zf r,zd _,za (hdr g0),hlt (hdr g0),_,hc,_,hc,?_⟩;have b0:Bw Y Y.drew:=bd;refine Gs ?_ ?_
  ·refine cmo (zhB hr (hT.below ((zst bY b0)))) ?_;rintro e V1 ⟨rfl,v⟩;refine⟨v,?_⟩;have b1:=zst b0 v;clear v;refine Gs ?_ ?_
   ·refine cmo zd0 ?_;rintro e _ ⟨rfl,hh⟩;subst hh;refine⟨Gm _ _,Gs ?_ ?_⟩
    ·refine cmo (zoi h48 (qS _)) ?_;rintro e V2 ⟨rfl,v⟩;refine⟨v,?_⟩;have b2:=zst b1 v;clear v;refine Gs ?_ ?_
     ·refine cmo (zc4 hw1 hw2) ?_;rintro e V3 ⟨rfl,v⟩;refine⟨v,?_⟩;have b3:=zst b2 v;clear v;refine⟨zba _ _,?_⟩;have v:Bw V3 (V3.alloc qF):=zba _ _;have fz:zG (V3.alloc qF) V3.heap.size zn:=zt V3 qF;have lz:Y.heap.size<=V3.heap.size:=b3.size;have b4:=zst b3 v;clear v;refine zr (v := .agg (zf (zX (jl r) (idR n (jk n))).1).toArray) k30 fz (zd _) (zd _) (zB _) ?_;have bs:=zk ((zst bY b4)) (g:=V3.heap.size) (UX bY.size lz) (zf (zX (jl r) (idR n (jk n))).1).toArray;exact⟨V3.heap.size,(cvE rfl rfl),(zp (by have:=hlt g1;omega)).trans (zb b4 g1),zm fz,bs⟩
     ·refine⟨zba _ _,?_⟩;have v:Bw V2 (V2.alloc qF):=zba _ _;have fz:zG (V2.alloc qF) V2.heap.size zn:=zt V2 qF;have lz:Y.heap.size<=V2.heap.size:=b2.size;have b3:=zst b2 v;clear v;refine cmo (zc4 hw1 hw2) ?_;rintro e V4 ⟨rfl,v⟩;refine⟨v,?_⟩;have b4:=zst b3 v;have fz:=zb v fz;clear v;refine zr (v := .agg (zf (zX (jl r) (idR n (jk n))).1).toArray) k30 fz (zd _) (zd _) (zB _) ?_;have bs:=zk ((zst bY b4)) (g:=V2.heap.size) (UX bY.size lz) (zf (zX (jl r) (idR n (jk n))).1).toArray;exact⟨V2.heap.size,(cvE rfl rfl),(zp (by have:=hlt g1;omega)).trans (zb b4 g1),zm fz,bs⟩
    ·refine⟨zba _ _,?_⟩;have v:Bw V1 (V1.alloc qF):=zba _ _;have fz:zG (V1.alloc qF) V1.heap.size zn:=zt V1 qF;have lz:Y.heap.size<=V1.heap.size:=b1.size;have b2:=zst b1 v;clear v;refine cmo (zoi h48 (qS _)) ?_;rintro e V3 ⟨rfl,v⟩;refine⟨v,?_⟩;have b3:=zst b2 v;have fz:=zb v fz;clear v;refine cmo (zc4 hw1 hw2) ?_;rintro e V4 ⟨rfl,v⟩;refine⟨v,?_⟩;have b4:=zst b3 v;have fz:=zb v fz;clear v;refine zr (v := .agg (zf (zX (jl r) (idR n (jk n))).1).toArray) k30 fz (zd _) (zd _) (zB _) ?_;have bs:=zk ((zst bY b4)) (g:=V1.heap.size) (UX bY.size lz) (zf (zX (jl r) (idR n (jk n))).1).toArray;exact⟨V1.heap.size,(cvE rfl rfl),(zp (by have:=hlt g1;omega)).trans (zb b4 g1),zm fz,bs⟩
   ·refine⟨zba _ _,?_⟩;have v:Bw V1 (V1.alloc qF):=zba _ _;have fz:zG (V1.alloc qF) V1.heap.size zn:=zt V1 qF;have lz:Y.heap.size<=V1.heap.size:=b1.size;have b2:=zst b1 v;clear v;refine cmo zd0 ?_;rintro e _ ⟨rfl,hh⟩;subst hh;refine⟨Gm _ _,cmo (zoi h48 (qS _)) ?_⟩;rintro e V3 ⟨rfl,v⟩;refine⟨v,?_⟩;have b3:=zst b2 v;have fz:=zb v fz;clear v;refine cmo (zc4 hw1 hw2) ?_;rintro e V4 ⟨rfl,v⟩;refine⟨v,?_⟩;have b4:=zst b3 v;have fz:=zb v fz;clear v;refine zr (v := .agg (zf (zX (jl r) (idR n (jk n))).1).toArray) k30 fz (zd _) (zd _) (zB _) ?_;have bs:=zk ((zst bY b4)) (g:=V1.heap.size) (UX bY.size lz) (zf (zX (jl r) (idR n (jk n))).1).toArray;exact⟨V1.heap.size,(cvE rfl rfl),(zp (by have:=hlt g1;omega)).trans (zb b4 g1),zm fz,bs⟩
  ·refine⟨zba _ _,?_⟩;have v:Below Y.drew.heap.size Y.drew (Y.drew.alloc qF):=zba _ _;have fz:zG (Y.drew.alloc qF) Y.drew.heap.size zn:=zt Y.drew qF;have lz:Y.heap.size<=Y.drew.heap.size:=b0.size;have b1:=zst b0 v;clear v;refine cmo (zhB hr (hT.below ((zst bY b1)))) ?_;rintro e V2 ⟨rfl,v⟩;refine⟨v,?_⟩;have b2:=zst b1 v;have fz:=zb v fz;clear v;refine cmo zd0 ?_;rintro e _ ⟨rfl,hh⟩;subst hh;refine⟨Gm _ _,cmo (zoi h48 (qS _)) ?_⟩;rintro e V3 ⟨rfl,v⟩;refine⟨v,?_⟩;have b3:=zst b2 v;have fz:=zb v fz;clear v;refine cmo (zc4 hw1 hw2) ?_;rintro e V4 ⟨rfl,v⟩;refine⟨v,?_⟩;have b4:=zst b3 v;have fz:=zb v fz;clear v;refine zr (v := .agg (zf (zX (jl r) (idR n (jk n))).1).toArray) k30 fz (zd _) (zd _) (zB _) ?_;have bs:=zk ((zst bY b4)) (g:=Y.drew.heap.size) (UX bY.size lz) (zf (zX (jl r) (idR n (jk n))).1).toArray;exact⟨Y.drew.heap.size,(cvE rfl rfl),(zp (by have:=hlt g1;omega)).trans (zb b4 g1),zm fz,bs⟩
 clear f0 f1 hbX hbY g0 g1 bY hT;rintro b3 X ⟨g1,g3,bX⟩;exact⟨zf (zX (jl r) (idR n (jk n))).1,zd _,za g3,hlt g3,zW g1 (by omega) bX fun Z fZ bZ=>⟨zf (zX (jl r) (idR n (jk n))).1,zd _,za fZ,rfl,bZ⟩⟩
end
def inS (rd wr fe:Bool) (m:UInt8) (th:Int) (s:Bs):Bool :=
 if s=[82] then rd
 else if s=[87] then wr
 else if s=[70] then fe
 else if s=[77] then rd||wr
 else if s=[65] then rd&&(decide (m=1)||decide (m=3))
 else if s=[76] then wr&&(decide (m=2)||decide (m=3))
 else if s=[88] then (rd||wr)&&decide (m=3)
 else if s=[70,70] then fe&&decide (m=3)
 else if s=[70,76] then fe&&decide (m=4)
 else if s=[70,83] then fe&&decide (m=5)
 else if s=[73] then decide (th = -1)
 else false
theorem ztm (e:Ev) (s:Bs):zhd e s=inS (decide (e.k=1)) (decide (e.k=2)) (decide (e.k=3)) e.m e.th s:=rfl
section
variable {w:Wd} {e:Ev} {s:Bs}
theorem zoe:Calls PG 149 #[.agg (evE.enc e).toArray,zx s] w fun r w'=>r = .returned (.bool (zhd e s))/\Bw w w':=by
 refine zU 99 [.agg (evE.enc e).toArray,zx s] (.c .p (.c .p .p)) Tryz.func149 ?_;rw [ztm];obtain⟨L,hL⟩:=nm (w.heap.size);refine⟨Unit,fun _=>⟨[(1,zx s),(2,At0 L)],[]⟩,fun _ X=>X.heap[L]?=some (.cells (evE.enc e).toArray 158 (0,0))/\Bw w X,⟨(),⟨.cons rfl (.cons (by rw [hL];rfl) .nil),rfl⟩,by rw [hL];exact zt w _,zba _ _⟩,?_⟩;rintro _ X ⟨f,hb⟩;obtain⟨rd,hrd⟩:=nm (decide (e.k=1));obtain⟨wr,hwr⟩:=nm (decide (e.k=2));obtain⟨fe,hfe⟩:=nm (decide (e.k=3));rw [<- hrd,<- hwr,<- hfe];refine⟨Unit,fun _=>⟨[(1,zx s),(2,At0 L),(5,.bool rd),(6,.bool wr),(7,.bool fe)],[]⟩,fun _ X=>X.heap[L]?=some (.cells (evE.enc e).toArray 158 (0,0))/\Bw w X,?_,?_⟩
 ·refine DrawE.ord [] [0,1,2,3,4,5,6,7,8,9,10,11] (by kernel_rfl) ⟨u8 e.k,zc (za (hdr f)) (i:=1) rfl,u8 e.k,zc (za (hdr f)) (i:=1) rfl,u8 e.k,zc (za (hdr f)) (i:=1) rfl,?_⟩;have c1:decide ((e.k.toNat:Int)=1)=rd:=by rw [hrd];exact qT e.k 1
  have c2:decide ((e.k.toNat:Int)=2)=wr:=by rw [hwr];exact qT e.k 2
  have c3:decide ((e.k.toNat:Int)=3)=fe:=by rw [hfe];exact qT e.k 3
  exact⟨(),⟨.cons rfl (.cons rfl (.cons (Gw (fun b=>some (Value.bool b)) c1) (.cons (Gw (fun b=>some (Value.bool b)) c2) (.cons (Gw (fun b=>some (Value.bool b)) c3) .nil)))),rfl⟩,hdr f,hb.drew⟩
 clear f hb X;rintro _ X ⟨f,hb⟩;have m1:decide ((e.m.toNat:Int)=1)=decide (e.m=1):=qT e.m 1;have m2:decide ((e.m.toNat:Int)=2)=decide (e.m=2):=qT e.m 2;have m3:decide ((e.m.toNat:Int)=3)=decide (e.m=3):=qT e.m 3;have m4:decide ((e.m.toNat:Int)=4)=decide (e.m=4):=qT e.m 4;have m5:decide ((e.m.toNat:Int)=5)=decide (e.m=5):=qT e.m 5;refine⟨_,fun w=>zF _ _ s [82] w,biE (fun h=>?_) fun h=>?_⟩
 ·obtain rfl:s=[82]:=dT h;exact⟨rfl,hb⟩
 have h0:¬ s=[82]:=dF h;clear h;refine⟨_,fun w=>zF _ _ s [87] w,biE (fun h=>?_) fun h=>?_⟩
 ·obtain rfl:s=[87]:=dT h;exact⟨rfl,hb⟩
 have h1:¬ s=[87]:=dF h;clear h;refine⟨_,fun w=>zF _ _ s [70] w,biE (fun h=>?_) fun h=>?_⟩
 ·obtain rfl:s=[70]:=dT h;exact⟨rfl,hb⟩
 have h2:¬ s=[70]:=dF h;clear h;refine⟨_,fun w=>zF _ _ s [77] w,biE (fun h=>?_) fun h=>?_⟩
 ·obtain rfl:s=[77]:=dT h;refine biE (fun k=>?_) fun k=>?_
  ·have k:rd=true:=k;exact⟨rb (by show _=(rd||wr);rw [k];rfl),hb⟩
  ·have k:rd=false:=k;exact⟨rb (by show _=(rd||wr);rw [k];rfl),hb⟩
 have h3:¬ s=[77]:=dF h;clear h;refine⟨_,fun w=>zF _ _ s [65] w,biE (fun h=>?_) fun h=>?_⟩
 ·obtain rfl:s=[65]:=dT h;refine biE (fun k=>?_) fun k=>?_
  ·have k:rd=true:=k;refine⟨u8 e.m,zc (za f) (i:=4) rfl,biE (fun q=>?_) fun q=>?_⟩
   ·have q:decide (e.m=1)=true:=m1.symm.trans q;exact⟨rb (by show _=(rd&&(decide (e.m=1)||decide (e.m=3)));rw [k,q];rfl),hb⟩
   ·have q:decide (e.m=1)=false:=m1.symm.trans q;exact⟨u8 e.m,zc (za f) (i:=4) rfl,rb (by show _=(rd&&(decide (e.m=1)||decide (e.m=3)));rw [k,q,<- m3];rfl),hb⟩
  ·have k:rd=false:=k;exact⟨rb (by show _=(rd&&(decide (e.m=1)||decide (e.m=3)));rw [k];rfl),hb⟩
 have h4:¬ s=[65]:=dF h;clear h;refine⟨_,fun w=>zF _ _ s [76] w,biE (fun h=>?_) fun h=>?_⟩
 ·obtain rfl:s=[76]:=dT h;refine biE (fun k=>?_) fun k=>?_
  ·have k:wr=true:=k;refine⟨u8 e.m,zc (za f) (i:=4) rfl,biE (fun q=>?_) fun q=>?_⟩
   ·have q:decide (e.m=2)=true:=m2.symm.trans q;exact⟨rb (by show _=(wr&&(decide (e.m=2)||decide (e.m=3)));rw [k,q];rfl),hb⟩
   ·have q:decide (e.m=2)=false:=m2.symm.trans q;exact⟨u8 e.m,zc (za f) (i:=4) rfl,rb (by show _=(wr&&(decide (e.m=2)||decide (e.m=3)));rw [k,q,<- m3];rfl),hb⟩
  ·have k:wr=false:=k;exact⟨rb (by show _=(wr&&(decide (e.m=2)||decide (e.m=3)));rw [k];rfl),hb⟩
 have h5:¬ s=[76]:=dF h;clear h;refine⟨_,fun w=>zF _ _ s [88] w,biE (fun h=>?_) fun h=>?_⟩
 ·obtain rfl:s=[88]:=dT h;refine biE (fun k=>?_) fun k=>?_
  ·have k:rd=true:=k;exact brT ⟨u8 e.m,zc (za f) (i:=4) rfl,rb (by show _=((rd||wr)&&decide (e.m=3));rw [k,<- m3];rfl),hb⟩
  ·have k:rd=false:=k;refine biE (fun q=>?_) fun q=>?_
   ·have q:wr=true:=q;exact⟨u8 e.m,zc (za f) (i:=4) rfl,rb (by show _=((rd||wr)&&decide (e.m=3));rw [k,q,<- m3];rfl),hb⟩
   ·have q:wr=false:=q;exact⟨rb (by show _=((rd||wr)&&decide (e.m=3));rw [k,q];rfl),hb⟩
 have h6:¬ s=[88]:=dF h;clear h;refine⟨_,fun w=>zF _ _ s [70,70] w,biE (fun h=>?_) fun h=>?_⟩
 ·obtain rfl:s=[70,70]:=dT h;refine biE (fun k=>?_) fun k=>?_
  ·have k:fe=true:=k;exact⟨u8 e.m,zc (za f) (i:=4) rfl,rb (by show _=(fe&&decide (e.m=3));rw [k,<- m3];rfl),hb⟩
  ·have k:fe=false:=k;exact⟨rb (by show _=(fe&&decide (e.m=3));rw [k];rfl),hb⟩
 have h7:¬ s=[70,70]:=dF h;clear h;refine⟨_,fun w=>zF _ _ s [70,76] w,biE (fun h=>?_) fun h=>?_⟩
 ·obtain rfl:s=[70,76]:=dT h;refine biE (fun k=>?_) fun k=>?_
  ·have k:fe=true:=k;exact⟨u8 e.m,zc (za f) (i:=4) rfl,rb (by show _=(fe&&decide (e.m=4));rw [k,<- m4];rfl),hb⟩
  ·have k:fe=false:=k;exact⟨rb (by show _=(fe&&decide (e.m=4));rw [k];rfl),hb⟩
 have h8:¬ s=[70,76]:=dF h;clear h;refine⟨_,fun w=>zF _ _ s [70,83] w,biE (fun h=>?_) fun h=>?_⟩
 ·obtain rfl:s=[70,83]:=dT h;refine biE (fun k=>?_) fun k=>?_
  ·have k:fe=true:=k;exact⟨u8 e.m,zc (za f) (i:=4) rfl,rb (by show _=(fe&&decide (e.m=5));rw [k,<- m5];rfl),hb⟩
  ·have k:fe=false:=k;exact⟨rb (by show _=(fe&&decide (e.m=5));rw [k];rfl),hb⟩
 have h9:¬ s=[70,83]:=dF h;clear h;refine⟨_,fun w=>zF _ _ s [73] w,biE (fun h=>?_) fun h=>?_⟩
 ·obtain rfl:s=[73]:=dT h;exact⟨i64 e.th,zc (za f) (i:=0) rfl,rfl,hb⟩
 have h10:¬ s=[73]:=dF h;clear h;refine⟨rb ?_,hb⟩;unfold inS;rw [GB h0,GB h1,GB h2,GB h3,GB h4,GB h5,GB h6,GB h7,GB h8,GB h9,GB h10]
end
section
variable {x:ExD} {q:OA} {c bb mb:Nat} {g:Bs->RelD} {w Y Z:Wd}
def zb0 (x:ExD) (s:Bs) (i:Nat):Bool:=match x.ev[i]? with | some e=>zhd e s | none=>false
theorem zqW (x:ExD) (s:Bs):znf x s=orG ((List.range x.ev.length).filter (zb0 x s)):=rfl
theorem zsW (hW:WldH x q c bb mb g w) (s:Bs):CB 102 #[At0 bb,zx s] w (s64 (znf x s)):=by
 refine zU 35 [At0 bb,zx s] (.s .p (.s .p (.s (.s .p (.b (.l (.s .p (.s .p (.s (.b (.c .p (.c .p .p))) .p)))))) .p))) Tryz.func102 ?_;have hn:=hW.v.n;refine⟨_,zc (za hW.f) (i:=0) (v := .slice q x.ev.length c) rfl,Nat×OA×Nat,fun y=>⟨[(0,At0 bb),(1,zx s),(5,.slice y.2.1 ((List.range y.1).filter (zb0 x s)).length y.2.2),(14,.slice q x.ev.length c),(15,i64 (x.ev.length:Nat)),(16,.int .i64 (y.1:Nat))],[]⟩,fun y X=>OwnS zC 3 w.heap.size X y.2.1 y.2.2 ((List.range y.1).filter (zb0 x s))/\Bw w X/\y.1<=x.ev.length,fun y=>x.ev.length-y.1,(0,none,0),(cvE rfl rfl),⟨OwnS.nil,Gm _ _,Gj _⟩,?_⟩;rintro⟨i,p,cp⟩ X ⟨ho,hb,hi⟩;dsimp only at ho hi ⊢;have hl:((List.range i).filter (zb0 x s)).length<=i:=UX (JL _ _) (by rw [KX];exact Gh _);refine biE (fun hc=>?_) fun hc=>?_
 ·have hc:(i:Int)<(x.ev.length:Int):=dT hc;have hil:i<x.ev.length:=by omega
  obtain⟨b,o,rfl,hbl,hev⟩:=zbW (hW.v.ev.below hb) hil;obtain⟨e,he⟩:=nm (x.ev.getD i ev0);rw [<- he] at hev;have hm:zb0 x s i=zhd e s:=by
   unfold zb0;rw [he,gDe,gE hil];rfl
  refine⟨Nat,fun b7=>⟨[(0,At0 bb),(1,zx s),(5,.slice p ((List.range i).filter (zb0 x s)).length cp),(6,i64 (i:Nat)),(7,At0 b7),(14,.slice (some ⟨b,o,none⟩) x.ev.length c),(15,i64 (x.ev.length:Nat)),(16,.int .i64 (i:Nat))],[]⟩,fun b7 V=>V.heap[b7]?=some (.cells (evE.enc e).toArray 158 (0,0))/\OwnS zC 3 w.heap.size V p cp ((List.range i).filter (zb0 x s))/\Bw w V,?_,?_⟩
  ·exact⟨i,rfl,hil,evE.enc e,rfl,hev,hbl,zl (X:=X) (v := .agg (evE.enc e).toArray) zdU rfl rfl rfl fun V hbV fV sV=>⟨X.heap.size,(cvE rfl rfl),fV,ho.below hbV,zst hb hbV⟩⟩
  clear ho hb hev hbl X;rintro b7 X ⟨f7,ho,hb⟩;refine⟨Bool,fun v=>⟨[(0,At0 bb),(1,zx s),(5,.slice p ((List.range i).filter (zb0 x s)).length cp),(6,i64 (i:Nat)),(14,.slice (some ⟨b,o,none⟩) x.ev.length c),(15,i64 (x.ev.length:Nat)),(16,.int .i64 (i:Nat)),(23,.bool v)],[]⟩,fun v V=>v=zhd e s/\OwnS zC 3 w.heap.size V p cp ((List.range i).filter (zb0 x s))/\Bw w V,?_,?_⟩
  ·refine⟨evE.enc e,rfl,za f7,hlt f7,cmo (zoe (e:=e) (s:=s)) ?_⟩;rintro r V ⟨rfl,bV⟩;exact⟨zhd e s,(cvE rfl rfl),rfl,ho.below bV,zst hb bV⟩
  clear f7 ho hb X;rintro v X ⟨hv,ho,hb⟩;have hsz:=hb.size;refine biE (fun h=>?_) fun h=>?_
  ·have h:v=true:=h;have hmt:zb0 x s i=true:=by rw [hm,<- hv,h]
   have er:(List.range (i+1)).filter (zb0 x s)=(List.range i).filter (zb0 x s)++[i]:=by
    rw [Ua,Kw,Qp,hmt];rfl
   refine⟨⟨by decide,by decide,rfl⟩,zC.enc i,rfl,?_⟩;have hba:Bw X (X.alloc (.cells (zC.enc i).toArray 3)):=zba _ _;have sa:(X.alloc (.cells (zC.enc i).toArray 3)).heap.size=X.heap.size+1:=wz _ _;refine qQ (E:=zC) (T:=3) (B:=w.heap.size) (l:=(List.range i).filter (zb0 x s)) (news:=[i]) (cap:=cp) (m:=1) Tryz.underlying128 k3 rfl rfl rfl (ho.below hba) rfl (qt zC i) (by omega) (by omega) (by show (((List.range i).filter (zb0 x s)).length+1)*8<=_;omega) ?_;intro p2 c2 V oV gV hbV hat;exact nxI (by omega) ⟨(i+1,p2,c2),⟨.cons rfl (.cons rfl (.cons (by show _=some (Value.slice p2 ((List.range (i+1)).filter (zb0 x s)).length c2);rw [er];rfl) (.cons rfl (.cons rfl (.cons rfl .nil))))),rfl⟩,⟨by show OwnS _ _ _ _ _ _ ((List.range (i+1)).filter (zb0 x s));rw [er];exact oV,(zst hb hba).trans hbV,hil⟩,zdc (by omega)⟩
  ·have h:v=false:=h;have hmt:zb0 x s i=false:=by rw [hm,<- hv,h]
   have er:(List.range (i+1)).filter (zb0 x s)=(List.range i).filter (zb0 x s):=by
    rw [Ua,Kw,Qp,hmt];simp
   exact nxI (by omega) ⟨(i+1,p,cp),⟨.cons rfl (.cons rfl (.cons (by show _=some (Value.slice p ((List.range (i+1)).filter (zb0 x s)).length cp);rw [er];rfl) (.cons rfl (.cons rfl (.cons rfl .nil))))),rfl⟩,⟨by show OwnS _ _ _ _ _ _ ((List.range (i+1)).filter (zb0 x s));rw [er];exact ho,hb,hil⟩,zdc (by omega)⟩
 ·have hc:¬ (i:Int)<(x.ev.length:Int):=dF hc;obtain rfl:i=x.ev.length:=by omega
  refine cmo (zv0 (p:=p) (cp:=cp) ho.row (fun a ha=>?_) (by omega)) ?_
  ·have:=Ut.1 (QX.1 ha).1;omega
  rintro e Y ⟨rfl,h⟩;subst h;exact⟨rfl,hb⟩
end
section
variable {ra rb:RelD} {w:Wd}
theorem zsk {ba bb i:Nat} (fa:w.heap[ba]?=some (.cells (zf ra).toArray 30 (0,0))) (fb:w.heap[bb]?=some (.cells (zf rb).toArray 30 (0,0))) (ha:zE ra.to) (hb:zE rb.to) (hi:i<48) :
  CB 56 (i64 (i:Nat)::[At0 ba,At0 bb]).toArray w (s64 (zaR (ra.to i) (rb.to i))):=by
 refine zI 14 (i64 (i:Nat)::[At0 ba,At0 bb]) Tryz.func56 ?_;refine DrawE.ord [] [0,1,2,3,4,5,6,7,8,9] (by kernel_rfl) ?_;have hd:Bw w w.drew:=(Gm _ w).drew;exact⟨i,rfl,hi,_,jx (hdr fa) hi,i,rfl,hi,_,jx (hdr fb) hi,_,zbI (ha i hi) (hb i hi),rfl,hd⟩
theorem zqy (ha:zE ra.to) (hb:zE rb.to):CB 17 #[.agg (zf ra).toArray,.agg (zf rb).toArray] w (.tuple #[.agg (zf (zaQ ra rb).1).toArray,i64 (zaQ ra rb).2]):=by
 refine zU 10 [.agg (zf ra).toArray,.agg (zf rb).toArray] (.c .p .p) Tryz.func17 ?_;obtain⟨L,hL⟩:=nm (w.heap.size);refine⟨Unit,fun _=>⟨[(2,At0 L),(3,At0 (L+1)),(4,At0 (L+2)),(5,i64 0)],[]⟩,fun _ X=>X.heap[L]?=some (.cells (zf ra).toArray 30 (0,0))/\X.heap[L+1]?=some (.cells (zf rb).toArray 30 (0,0))/\X.heap[L+2]?=some (.cells (zf zn).toArray 30 (0,0))/\Bw w X,?_,?_⟩
 ·have s1:=wz w (.cells (zf ra).toArray 30);have s2:=wz (w.alloc (.cells (zf ra).toArray 30)) (.cells (zf rb).toArray 30);have h2:=zt (w.alloc (.cells (zf ra).toArray 30)) (.cells (zf rb).toArray 30);have h3:=zt ((w.alloc (.cells (zf ra).toArray 30)).alloc (.cells (zf rb).toArray 30)) (.cells (zf zn).toArray 30);rw [s1] at s2 h2;rw [s2] at h3;refine⟨(),⟨.cons (by rw [hL];rfl) (.cons (by rw [hL,<- s1];rfl) (.cons (by rw [hL,<- s2];rfl) (.cons rfl .nil))),rfl⟩,?_,?_,?_,?_⟩
  ·rw [hL];exact qe _ (qe _ (zt w _))
  ·rw [hL];exact qe _ h2
  ·rw [hL];exact h3
  ·exact (((zba w _)).alloc (by simp) _).alloc (by simp;omega) _
 rintro _ X ⟨f0,f1,f2,hbX⟩;refine cmo (zdR (row:=fun i=>zaR (ra.to i) (rb.to i)) f0 f1 ha hb (by kernel_rfl) (fun e h1 h2 i Y hi hbY=>?_)) ?_
 ·have h48:=(qy h1).2.1;exact zsk (zb hbY f0) (zb hbY f1) ha hb (by omega)
 rintro e Y ⟨rfl,hbY⟩;exact zr (v := .agg (zf (zaQ ra rb).1).toArray) k30 (zb hbY f2) rfl rfl (zB _) ⟨zf (zaQ ra rb).1,zd _,za (zm (zb hbY f2)),rfl,zk ((zst hbX hbY)) (by omega) _⟩
end
end Go.Proofs.YtnadlhpkpnfmbaaGreatDoor
