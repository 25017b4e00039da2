/- Contracts of functions, and plain facts, for the law that the last text of this claim proves. -/
import Derived.Test.YtnadlhpkpnfmbaaGreatDoorA5
import Derived.Test.YtnadlhpkpnfmbaaGreatDoorA2
import Derived.Test.YtnadlhpkpnfmbaaGreatDoorA4
import Derived.Test.YtnadlhpkpnfmbaaGreatDoorA1
import Derived.Lib.AppendStr
set_option linter.unusedSimpArgs false
set_option linter.unusedVariables false
namespace Go.Proofs.YtnadlhpkpnfmbaaGreatDoor
open Go.Vc Go.RowKit Go.Sei
def TrmR (g l c:Nat) (s:Bs) (w:World) (r:Option Trm×PS) (e:Ending) (w':World):Prop :=
 ∃ (t:Trm) (q:Option Addr) (cap:Nat),e = .returned (.tuple #[.agg (zad t q cap).toArray,.bool r.1.isSome]) /\
  (∀ x,r.1=some x->x=t/\t.name.length<=8192/\KidsT (fun b=>w.heap.size<=b) w' q t.kids)/\ParB g l c s r.2 w'/\w.grownBy w' (some g)
def zT:Trm := .mk 0 [] []
def znN (g l c:Nat) (s:Bs) (f:Nat):Prop:=∀ (least:Nat) (st:PS) (w:World),least<=5->ParB g l c s st w->4*(s.length-st.tok.at_)+3<=f ->
 Calls Tryz.prog 111 #[At0 g,i64 (least:Nat)] w (TrmR g l c s w (termP (zaz s) f least st))
section
variable {g l c:Nat} {s:Bs} {st:PS} {w w2 X:World}
theorem ParB.upto (h:ParB g l c s st w) (hb:Below (g+1) w w2):ParB g l c s st w2:=by
 have o:=h.ord;have sm:∀ {j},j<=g->w2.heap[j]?=w.heap[j]?:=fun {j} hj=>hb.block j (by omega);have hg:=h.glob;refine⟨(sm (Jb _)).trans h.f,h.lm.same (sm (by omega)),h.cm.same (sm (by omega)),o,⟨zaB (sm ?_) hg.op,zaB (sm ?_) hg.st,zaB (sm ?_) hg.sg,zaB (sm ?_) hg.nd,nL hg.lt hb.size⟩,h.len,h.pos,h.nod,h.dep⟩
 all_goals exact Jj (by decide) (by omega:3<=g)
theorem zjG {Y:World} (h:w.grownBy X (some g)) (hb:Below w.heap.size X Y):w.grownBy Y (some g) :=
 ⟨hb.os.trans h.os,hb.tape.trans h.tape,hb.output.trans h.output,Jj h.size hb.size,fun j hj hn=>(hb.block j hj).trans (h.block j hj hn)⟩
theorem zds {t:Bs} (h:isP st t=true):st.tok.text.length=t.length:=by
 unfold isP at h;rw [bAT] at h;rw [dT h.2]
theorem zfO {r:Nat} {t:Trm} {q:Option Addr} {cap:Nat} {cs:Array Value} (hr:w.heap.size<=r) (f:X.heap[r]?=some (.cells cs 24 (0,0))) (h3:cs.size=3) (hX:ParB g l c s st X) (gX:w.grownBy X (some g)) (hg:g<w.heap.size) {K:World->Prop}
  (k:∀ Y,ParB g l c s st Y->w.grownBy Y (some g)->Y.heap[r]?=some (.cells (zad t q cap).toArray 24 (0,0))->(∀ j,j≠r->Y.heap[j]?=X.heap[j]?)->Y.heap.size=X.heap.size->K Y) :
  SatR ((storeVar 24 ⟨r,0,none⟩ (.agg (zad t q cap).toArray)).run Tryz.prog X) fun _ w'=>K w':=by
 exact zao (v := .agg (zad t q cap).toArray) k24 f rfl h3 rfl (k _ (hX.upto (zah (Ja _ X) (by omega) _)) (zjG gX (zah (Ja _ X) hr _)) (zal f) (fun j hj=>zam hj) (by simp))
structure SimB (w:World) (g l c:Nat) (s:Bs) (st:PS) (tb:Nat) (t:Trm) (q:Option Addr) (cap:Nat) (Y:World):Prop where
 p:ParB g l c s st Y
 r:Y.heap[w.heap.size]?=some (.cells (zad zT none 0).toArray 24 (0,0))
 x:Y.heap[tb]?=some (.cells (zad t q cap).toArray 24 (0,0))
 o:w.grownBy Y (some g)
 lt:w.heap.size<tb
 g:g<w.heap.size
structure AnsB (w:World) (g l c:Nat) (s:Bs) (st:PS) (Y:World):Prop where
 p:ParB g l c s st Y
 r:Y.heap[w.heap.size]?=some (.cells (zad zT none 0).toArray 24 (0,0))
 o:w.grownBy Y (some g)
 g:g<w.heap.size
section
variable {tb:Nat} {t:Trm} {q:Option Addr} {cap:Nat} {Y Z:World} {st':PS}
theorem SimB.ans (h:SimB w g l c s st tb t q cap Y):AnsB w g l c s st Y:=⟨h.p,h.r,h.o,h.g⟩
theorem AnsB.grown (h:AnsB w g l c s st Y) (hZ:ParB g l c s st' Z) (gZ:Y.grownBy Z (some g)):AnsB w g l c s st' Z :=
 ⟨hZ,(gZ.block _ (hlt h.r) (by have:=h.g;simp;omega)).trans h.r,zaf h.o gZ,h.g⟩
theorem SimB.grown (h:SimB w g l c s st tb t q cap Y) (hZ:ParB g l c s st' Z) (gZ:Y.grownBy Z (some g)):SimB w g l c s st' tb t q cap Z :=
 ⟨hZ,(gZ.block _ (hlt h.r) (by have:=h.g;simp;omega)).trans h.r,(gZ.block _ (hlt h.x) (by have:=h.g;have:=h.lt;simp;omega)).trans h.x,zaf h.o gZ,h.lt,h.g⟩
theorem SimB.drew (h:SimB w g l c s st tb t q cap Y):SimB w g l c s st tb t q cap Y.drew :=
 h.grown (h.p.below (Ja _ Y).drew) (zag (Ja _ Y).drew)
theorem AnsB.box (h:AnsB w g l c s st Y) {cs:Array Value} (h3:cs.size=3) {K:World->Prop} (k:∀ Z,SimB w g l c s st Y.heap.size t q cap Z->Bw Y Z->Z.heap.size=Y.heap.size+1->K Z) :
  SatR ((storeVar 24 ⟨Y.heap.size,0,none⟩ (.agg (zad t q cap).toArray)).run Tryz.prog (Y.alloc (.cells cs 24))) fun _ w'=>K w' :=
 zak (X:=Y) (v := .agg (zad t q cap).toArray) k24 rfl h3 rfl fun Z hbZ fZ sZ =>
  k Z ⟨h.p.below hbZ,zab hbZ h.r,fZ,zaf h.o (zag hbZ),hlt h.r,h.g⟩ hbZ sZ
theorem AnsB.fin (h:AnsB w g l c s st Y) {R:Option Trm×PS} {ok:Bool} (e1:R.1.isSome=ok) (e2:R.2=st) (e3:∀ x,R.1=some x->x=t/\t.name.length<=8192/\KidsT (fun b=>w.heap.size<b) Y q t.kids) :
  SatR ((storeVar 24 ⟨w.heap.size,0,none⟩ (.agg (zad t q cap).toArray)).run Tryz.prog Y) fun _ w'=>∃ us:List Value,us.length=3/\zav w' ⟨w.heap.size,0,none⟩ us/\TrmR g l c s w R (.returned (zcp [.agg us.toArray,.bool ok])) w':=by
 refine zfO (t:=t) (q:=q) (cap:=cap) (Jb _) h.r rfl h.p h.o h.g fun Z hZ gZ fZ oZ _=>⟨zad t q cap,rfl,zaa fZ,t,q,cap,by rw [e1];rfl,fun x hx=>?_,by rw [e2];exact hZ,gZ⟩;obtain⟨h1,h2,h3⟩:=e3 x hx;exact⟨h1,h2,(h3.by fun b cs ty fr hb hc=>oZ b (by omega)).weak fun b hb=>by omega⟩
theorem AnsB.none (h:AnsB w g l c s st Y) {R:Option Trm×PS} (hR:R=(none,st)) :
  SatR ((storeVar 24 ⟨w.heap.size,0,none⟩ (.agg (zad t q cap).toArray)).run Tryz.prog Y) fun _ w'=>∃ us:List Value,us.length=3/\zav w' ⟨w.heap.size,0,none⟩ us/\TrmR g l c s w R (.returned (zcp [.agg us.toArray,.bool false])) w' :=
 h.fin (by rw [hR];rfl) (by rw [hR]) (fun x hx=>by rw [hR] at hx;cases hx)
theorem AnsB.leaf {b:Bool} (h:AnsB w g l c s st Y) {R:Option Trm×PS} (hR:R=(if b=true then some t else Option.none,st)) (hk:t.kids=[]) (hn:t.name.length<=8192) :
  SatR ((storeVar 24 ⟨w.heap.size,0,Option.none⟩ (.agg (zad t q cap).toArray)).run Tryz.prog Y) fun _ w'=>∃ us:List Value,us.length=3/\zav w' ⟨w.heap.size,0,Option.none⟩ us/\TrmR g l c s w R (.returned (zcp [.agg us.toArray,.bool b])) w':=by
 refine h.fin (by rw [hR];cases b <;> rfl) (by rw [hR]) fun x hx=>?_;rw [hR] at hx
 cases b with
 | false=>cases hx
 | true=>exact⟨(Jg hx).symm,hn,by rw [hk];exact .nil⟩
end
theorem zl0 {f:Nat} (hT:znN g l c s f) (h:ParB g l c s st w) (hf:4*(s.length-st.tok.at_)<=f) :
  Calls Tryz.prog 205 #[At0 g] w (TrmR g l c s w (simpleP (zaz s) (f+1) st)):=by
 refine cofM 115 [At0 g] (.c .p (.s (.b (.s .p (.d (.c .p (.c .p .p)) (.s .p (.d (.c .p (.c .p (.c .p (.c .p (.c .p .p))))) (.c .p (.d (.s .p (.c .p (.c .p (.c .p .p)))) .p))))))) .p)) Tryz.func205 ?_;obtain⟨R,hR⟩:=nm (simpleP (zaz s) (f+1) st);rw [<- hR];rw [simpleP] at hR;refine⟨Unit,fun _=>⟨[(0,At0 g),(2,At0 w.heap.size)],[]⟩,fun _ X=>AnsB w g l c s st X,⟨(),(cvE rfl rfl),h.below (zba _ _),hnew w _,zag (zba _ _),h.lt⟩,?_⟩;have hlen:=h.len;have hpos:=h.pos;have hdep:=h.dep;rintro _ X hX;refine⟨_,zac (zaa hX.p.f) (i:=1) rfl,biE (fun h1=>?_) fun h1=>?_⟩
 ·
  have h1:st.tok.kind=4:=dT ((zaF (b:=4)).symm.trans h1);rw [Kc h1] at hR;have tl:st.tok.text.length<=8192:=by omega
  refine⟨Nat,fun tb=>⟨[(0,At0 g),(2,At0 w.heap.size),(4,At0 tb)],[]⟩,fun tb Y=>SimB w g l c s st tb (.mk 1 st.tok.text []) none 0 Y,?_,?_⟩
  ·exact⟨_,zac (zaa hX.p.f) (i:=2) rfl,zad (.mk 1 st.tok.text []) none 0,rfl,hX.box rfl fun Y hY _ _=>⟨_,(cvE rfl rfl),hY⟩⟩
  clear hX X;rintro tb Y hY;refine⟨Unit,fun _=>⟨[(0,At0 g),(2,At0 w.heap.size),(4,At0 tb)],[]⟩,fun _ Y=>SimB w g l c s st tb (.mk 1 st.tok.text []) none 0 Y/\R=((if (zcG (zaz s) st).1=true then some (.mk 1 st.tok.text []) else none),(zcG (zaz s) st).2),?_,?_⟩
  ·refine DrawE.ord [] [0,1,2,3,4,5,6,7,8,9,10,11,12,13] (by kernel_rfl) ?_;have hD:=hY.drew;refine⟨_,zac (zaa hD.x) (i:=1) rfl,cmo (zhU st.tok.text _) ?_⟩;rintro e _ ⟨rfl,rfl⟩;refine⟨Ja _ _,?_⟩;have good:(!relB st.tok.text && !st.lets st.tok.text)=false->R=((if (zcG (zaz s) st).1=true then some (.mk 1 st.tok.text []) else none),(zcG (zaz s) st).2):=fun hn=>by
    rw [hR,hn,JZ JU]
    cases zcG (zaz s) st with
    | mk b st2=>cases b <;> rfl
   refine biE (fun h2=>?_) fun h2=>?_
   ·have h2:(!relB st.tok.text)=true:=h2;refine⟨_,zac (zaa hD.p.f) (i:=4) rfl,_,zac (zaa hD.x) (i:=1) rfl,_,fun w2 hb=>zeE (hD.p.lm.below hb) st.tok.text,biE (fun h3=>?_) fun h3=>?_⟩
    ·have h3:(!st.lets st.tok.text)=true:=h3;rw [h2,h3] at hR;rw [Kc (by rfl:(true&&true)=true)] at hR;have hE:=hD.drew;refine DrawE.treeQ [2,3] (.op 1 (.alt (.op 2 (.op 0 (.op 3 (.op 4 .nil)))) (.op 0 (.op 2 (.op 3 (.op 4 .nil)))))) (by kernel_rfl) (Jn ?_ ?_)
     ·refine cmo (zbV hE.p 112) ?_;rintro e Z ⟨rfl,hZ,gZ⟩;have hE2:=hE.grown hZ gZ;exact⟨_,rfl,zaa hE2.x,hlt hE2.x,hE2.ans.none hR⟩
     ·refine⟨_,rfl,zaa hE.x,hlt hE.x,cmo (zbV hE.p 112) ?_⟩;rintro e Z ⟨rfl,hZ,gZ⟩;exact (hE.grown hZ gZ).ans.none hR
    ·have h3:(!st.lets st.tok.text)=false:=h3;exact⟨(),(cvE rfl rfl),hD,good (by rw [h3,JY])⟩
   ·have h2:(!relB st.tok.text)=false:=h2;exact brF ⟨(),(cvE rfl rfl),hD,good (by rw [h2,JJ])⟩
  clear hY hR Y;rintro _ Y ⟨hY,hR⟩;have hE:=hY.drew;refine DrawE.treeQ [2,3] (.op 1 (.alt (.op 2 (.op 0 (.op 3 (.op 4 .nil)))) (.op 0 (.op 2 (.op 3 (.op 4 .nil)))))) (by kernel_rfl) (Jn ?_ ?_)
  ·refine cmo (ziK hE.p) ?_;rintro e2 Z ⟨rfl,hZ,gZ⟩;have hE2:=hE.grown hZ gZ;exact⟨_,rfl,zaa hE2.x,hlt hE2.x,hE2.ans.leaf hR rfl tl⟩
  ·refine⟨_,rfl,zaa hE.x,hlt hE.x,cmo (ziK hE.p) ?_⟩;rintro e2 Z ⟨rfl,hZ,gZ⟩;exact (hE.grown hZ gZ).ans.leaf hR rfl tl
 have h1:st.tok.kind≠4:=dF ((zaF (b:=4)).symm.trans h1);rw [JZ h1] at hR;refine cmo (is_c hX.p [91]) ?_;rintro e _ ⟨rfl,rfl⟩;refine biE (fun h2=>?_) fun h2=>?_
 ·
  have h2:isP st [91]=true:=h2;rw [Kc h2] at hR;rcases hnd:zcG (zaz s) st with ⟨nb,st2⟩;rw [hnd] at hR;refine⟨Unit,fun _=>⟨[(0,At0 g),(2,At0 w.heap.size)],[]⟩,fun _ Y=>AnsB w g l c s st2 Y/\nb=true,?_,?_⟩
  ·refine cmo (ziK hX.p) ?_;rintro e Y ⟨rfl,hY,gY⟩;rw [hnd] at hY ⊢;dsimp only at hY;have hY2:=hX.grown hY gY;refine biE (fun h3=>?_) fun h3=>?_
   ·have h3:(!nb)=true:=h3;have h3:nb=false:=(by simpa using h3);subst h3;exact⟨zad zT none 0,rfl,hY2.none hR⟩
   ·have h3:(!nb)=false:=h3;exact⟨(),(cvE rfl rfl),hY2,by simpa using h3⟩
  clear hX X;rintro _ Y ⟨hY,rfl⟩;dsimp only at hR;have hp2:=hY.p.pos;have tl:st2.tok.text.length<=8192:=by omega
  refine⟨Nat,fun tb=>⟨[(0,At0 g),(2,At0 w.heap.size),(5,At0 tb)],[]⟩,fun tb Y=>SimB w g l c s st2 tb (.mk 9 st2.tok.text []) none 0 Y,?_,?_⟩
  ·exact⟨_,zac (zaa hY.p.f) (i:=2) rfl,zad (.mk 9 st2.tok.text []) none 0,rfl,hY.box rfl fun Z hZ _ _=>⟨_,(cvE rfl rfl),hZ⟩⟩
  clear hY Y;rintro tb Z hZ;refine⟨Unit,fun _=>⟨[(0,At0 g),(2,At0 w.heap.size),(5,At0 tb)],[]⟩,fun _ Y=>SimB w g l c s st2 tb (.mk 9 st2.tok.text []) none 0 Y/\st2.tok.kind=5,?_,?_⟩
  ·refine⟨_,zac (zaa hZ.p.f) (i:=1) rfl,biE (fun h4=>?_) fun h4=>?_⟩
   ·have h4:(!decide ((st2.tok.kind:Int)=((5:Nat):Int)))=true:=h4;rw [zaF] at h4;have h4:st2.tok.kind≠5:=(by simpa using h4);rw [Kc h4] at hR;have hE:=hZ.drew;refine DrawE.treeQ [2,3] (.op 1 (.alt (.op 2 (.op 0 (.op 3 (.op 4 .nil)))) (.op 0 (.op 2 (.op 3 (.op 4 .nil)))))) (by kernel_rfl) (Jn ?_ ?_)
    ·refine cmo (zbV hE.p 110) ?_;rintro e2 V ⟨rfl,hV,gV⟩;have hE2:=hE.grown hV gV;exact⟨_,rfl,zaa hE2.x,hlt hE2.x,hE2.ans.none hR⟩
    ·refine⟨_,rfl,zaa hE.x,hlt hE.x,cmo (zbV hE.p 110) ?_⟩;rintro e2 V ⟨rfl,hV,gV⟩;exact (hE.grown hV gV).ans.none hR
   ·have h4:(!decide ((st2.tok.kind:Int)=((5:Nat):Int)))=false:=h4;rw [zaF] at h4;exact⟨(),(cvE rfl rfl),hZ,by simpa using h4⟩
  clear hZ Z;rintro _ Z ⟨hZ,h4⟩;rw [JZ (fun k=>k h4)] at hR;refine⟨Unit,fun _=>⟨[(0,At0 g),(2,At0 w.heap.size),(5,At0 tb)],[]⟩,fun _ Y=>SimB w g l c s st2 tb (.mk 9 st2.tok.text []) none 0 Y/\setB st2.tok.text=true,?_,?_⟩
  ·refine⟨_,zac (zaa hZ.x) (i:=1) rfl,cmo (zmW st2.tok.text Z) ?_⟩;rintro e _ ⟨rfl,rfl⟩;refine biE (fun h5=>?_) fun h5=>?_
   ·have h5:(!setB st2.tok.text)=true:=h5;have h5:setB st2.tok.text=false:=(by simpa using h5);rw [Kc h5] at hR;have hE:=hZ.drew;refine DrawE.treeQ [2,3] (.op 1 (.alt (.op 2 (.op 0 (.op 3 (.op 4 .nil)))) (.op 0 (.op 2 (.op 3 (.op 4 .nil)))))) (by kernel_rfl) (Jn ?_ ?_)
    ·refine cmo (zbV hE.p 112) ?_;rintro e2 V ⟨rfl,hV,gV⟩;have hE2:=hE.grown hV gV;exact⟨_,rfl,zaa hE2.x,hlt hE2.x,hE2.ans.none hR⟩
    ·refine⟨_,rfl,zaa hE.x,hlt hE.x,cmo (zbV hE.p 112) ?_⟩;rintro e2 V ⟨rfl,hV,gV⟩;exact (hE.grown hV gV).ans.none hR
   ·have h5:(!setB st2.tok.text)=false:=h5;exact⟨(),(cvE rfl rfl),hZ,by simpa using h5⟩
  clear hZ Z;rintro _ Z ⟨hZ,h5⟩;rw [JZ (by rw [h5];decide)] at hR;refine⟨Unit,fun _=>⟨[(0,At0 g),(2,At0 w.heap.size),(5,At0 tb)],[]⟩,fun _ Y=>SimB w g l c s (nx s st2) tb (.mk 9 st2.tok.text []) none 0 Y,?_,?_⟩
  ·refine cmo (zdo hZ.p) ?_;rintro e Z2 ⟨rfl,hZ2,gZ2⟩;exact⟨(),(cvE rfl rfl),hZ.grown hZ2 gZ2⟩
  clear hZ Z;rintro _ Z hZ;have hE:=hZ.drew;have eR:R=((if (zaR (zaz s) 6 [93] (nx s st2)).1=true then some (.mk 9 st2.tok.text []) else none),(zaR (zaz s) 6 [93] (nx s st2)).2):=by
   rw [hR];show (match zaR (zaz s) 6 [93] (nx s st2) with | (true,st3)=>_ | (false,st3)=>_)=_
   cases zaR (zaz s) 6 [93] (nx s st2) with
   | mk b st3=>cases b <;> rfl
  refine DrawE.treeQ [2,3] (.op 1 (.alt (.op 2 (.op 0 (.op 3 (.op 4 .nil)))) (.op 0 (.op 2 (.op 3 (.op 4 .nil)))))) (by kernel_rfl) (Jn ?_ ?_)
  ·refine cmo (zdY hE.p 6 [93]) ?_;rintro e2 V ⟨rfl,hV,gV⟩;have hE2:=hE.grown hV gV;exact⟨_,rfl,zaa hE2.x,hlt hE2.x,hE2.ans.leaf eR rfl tl⟩
  ·refine⟨_,rfl,zaa hE.x,hlt hE.x,cmo (zdY hE.p 6 [93]) ?_⟩;rintro e2 V ⟨rfl,hV,gV⟩;exact (hE.grown hV gV).ans.leaf eR rfl tl
 have h2:isP st [91]=false:=h2;rw [JZ (by rw [h2];exact JU)] at hR;refine⟨Bool,fun b=>⟨[(0,At0 g),(2,At0 w.heap.size),(75,.bool b)],[]⟩,fun b Y=>AnsB w g l c s st Y/\b=(isP st [40]&&decide (st.deep<50)),?_,?_⟩
 ·refine cmo (is_c hX.p [40]) ?_;rintro e _ ⟨rfl,rfl⟩;refine biE (fun h3=>?_) fun h3=>?_
  ·have h3:isP st [40]=true:=h3;refine⟨_,zac (zaa hX.p.f) (i:=7) rfl,decide (st.deep<50),⟨.cons rfl (.cons rfl (.cons ?_ .nil)),rfl⟩,hX,by rw [h3];rfl⟩;show some (Value.bool (decide ((st.deep:Int)<50)))=some (.bool (decide (st.deep<50)));congr 2;rw [Kd];omega
  ·have h3:isP st [40]=false:=h3;exact⟨false,(cvE rfl rfl),hX,by rw [h3];rfl⟩
 clear hX X;rintro b X ⟨hX,hb⟩;refine biE (fun hbt=>?_) fun hbf=>?_
 ·
  have hbt:b=true:=hbt;rw [hbt] at hb;rw [Kc hb.symm] at hR;have hb2:=hb.symm;rw [bAT,dE] at hb2;obtain⟨h3,h4⟩:=hb2;obtain⟨st2,hs2⟩:∃ st2,st2=zcY (zaz s) { st with deep:=st.deep+1 }:=⟨_,rfl⟩;rw [<- hs2] at hR;have d2:st2.deep=st.deep+1:=by rw [hs2];rfl
  have at2:st.tok.at_+1<=st2.tok.at_:=by
   have:=zmH s { st with deep:=st.deep+1 };have hl1:=zds h3;rw [hs2];refine Jj ?_ this;show _<=st.tok.at_+st.tok.text.length;rw [hl1];exact Jb _
  have hl0:1<=s.length-st.tok.at_:=by
   have hl1:=zds h3;have:([40]:Bs).length=1:=rfl;omega
  refine⟨_,zac (zaa hX.p.f) (i:=7) rfl,((st.deep+1:Nat):Int),(zaj (by omega)).trans (by omega),hX.p.deep (n:=st.deep+1) (by omega) fun Y hY gY=>?_⟩;have hXY:=hX.grown hY gY;refine⟨Unit,fun _=>⟨[(0,At0 g),(2,At0 w.heap.size)],[]⟩,fun _ Y=>AnsB w g l c s st2 Y,?_,?_⟩
  ·refine cmo (zdo hXY.p) ?_;rintro e Z ⟨rfl,hZ,gZ⟩;rw [hs2];exact⟨(),(cvE rfl rfl),hXY.grown hZ gZ⟩
  clear hXY hY gY Y hX X;rintro _ Z hZ;rcases htm:termP (zaz s) f 1 st2 with ⟨r1,st3⟩;rw [htm] at hR;have hm:=(zdp (s:=s) f).1 1 st2;rw [htm] at hm;have d3:st3.deep=st.deep+1:=by rw [<- d2];exact hm.2.1
  refine⟨Nat×Trm×Option Addr×Nat,fun y=>⟨[(0,At0 g),(2,At0 w.heap.size),(6,At0 y.1),(7,.bool r1.isSome)],[]⟩,fun y Y=>SimB w g l c s st3 y.1 y.2.1 y.2.2.1 y.2.2.2 Y/\∀ x,r1=some x->x=y.2.1/\y.2.1.name.length<=8192/\KidsT (fun b=>w.heap.size<b) Y y.2.2.1 y.2.1.kids,?_,?_⟩
  ·refine cmo (hT 1 st2 Z (by decide) hZ.p (by omega)) ?_;rw [htm];rintro e V ⟨t,q,cap,rfl,hk,hV,gV⟩;dsimp only at hk hV;have hZV:=hZ.grown hV gV;refine hZV.box rfl fun U hU bU _=>⟨(V.heap.size,t,q,cap),(cvE rfl rfl),hU,fun x hx=>?_⟩;obtain⟨k1,k2,k3⟩:=hk x hx;refine⟨k1,k2,(k3.kept bU).weak fun b hb=>?_⟩;have:=hlt hZ.r;omega
  clear hZ Z;rintro⟨tb,t,q,cap⟩ U ⟨hU,hk⟩;dsimp only at hU hk ⊢;refine⟨Unit,fun _=>⟨[(0,At0 g),(2,At0 w.heap.size),(6,At0 tb),(7,.bool r1.isSome)],[]⟩,fun _ Y=>SimB w g l c s { st3 with deep:=st3.deep-1 } tb t q cap Y/\∀ x,r1=some x->x=t/\t.name.length<=8192/\KidsT (fun b=>w.heap.size<b) Y q t.kids,?_,?_⟩
  ·refine⟨_,zac (zaa hU.p.f) (i:=7) rfl,((st3.deep-1:Nat):Int),(zaj (by omega)).trans (by omega),hU.p.deep (n:=st3.deep-1) (by omega) fun T hTb gT=>⟨(),(cvE rfl rfl),hU.grown hTb gT,fun x hx=>?_⟩⟩;obtain⟨k1,k2,k3⟩:=hk x hx;have:=hU.g;exact⟨k1,k2,k3.by fun b cs ty fr hb hc=>gT.block b (hlt hc) (by simp;omega)⟩
  clear hU hk U;rintro _ T ⟨hTT,hk⟩;have hE:=hTT.drew;have hkE:∀ x,r1=some x->x=t/\t.name.length<=8192/\KidsT (fun b=>w.heap.size<b) T.drew q t.kids:=fun x hx=>by
   obtain⟨k1,k2,k3⟩:=hk x hx;exact⟨k1,k2,k3.kept (Ja _ T).drew⟩
  cases r1 with
  | none =>
   refine DrawE.treeQ [4,6] (.op 1 (.op 2 (.op 3 (.alt (.op 4 (.op 0 (.op 5 (.op 6 (.op 7 .nil))))) (.op 0 (.op 4 (.op 5 (.op 6 (.op 7 .nil))))))))) (by kernel_rfl) (brF (Jn ?_ ?_))
   ·exact⟨_,rfl,zaa hE.x,hlt hE.x,hE.ans.none hR⟩
   ·exact⟨_,rfl,zaa hE.x,hlt hE.x,hE.ans.none hR⟩
  | some t1 =>
   obtain⟨k1,k2,k3⟩:=hkE t1 rfl;subst k1;have eR:R=((if (zaR (zaz s) 6 [41] { st3 with deep:=st3.deep-1 }).1=true then some t1 else none),(zaR (zaz s) 6 [41] { st3 with deep:=st3.deep-1 }).2):=by
    rw [hR];dsimp only
    cases zaR (zaz s) 6 [41] { st3 with deep:=st3.deep-1 } with
    | mk b st4=>cases b <;> rfl
   have gw:=hE.g;have fEnd:∀ {N:World},SimB w g l c s (zaR (zaz s) 6 [41] { st3 with deep:=st3.deep-1 }).2 tb t1 q cap N->T.drew.grownBy N (some g)->SatR ((storeVar 24 ⟨w.heap.size,0,none⟩ (.agg (zad t1 q cap).toArray)).run Tryz.prog N) fun _ w'=>∃ us:List Value,us.length=3/\zav w' ⟨w.heap.size,0,none⟩ us/\TrmR g l c s w R (.returned (zcp [.agg us.toArray,.bool (zaR (zaz s) 6 [41] { st3 with deep:=st3.deep-1 }).1])) w':=by
    intro N hN gN;refine hN.ans.fin (by rw [eR];dsimp only;cases (zaR (zaz s) 6 [41] { st3 with deep:=st3.deep-1 }).1 <;> rfl) (by rw [eR]) fun x hx=>?_;rw [eR] at hx;dsimp only at hx
    split at hx
    ·exact⟨(Jg hx).symm,k2,k3.by fun b cs ty fr hb hc=>gN.block b (hlt hc) (by simp;omega)⟩
    ·cases hx
   refine DrawE.treeQ [4,6] (.op 1 (.op 2 (.op 3 (.alt (.op 4 (.op 0 (.op 5 (.op 6 (.op 7 .nil))))) (.op 0 (.op 4 (.op 5 (.op 6 (.op 7 .nil))))))))) (by kernel_rfl) (brT (Jn ?_ ?_))
   ·refine cmo (zdY hE.p 6 [41]) ?_;rintro e2 N ⟨rfl,hN,gN⟩;have hE2:=hE.grown hN gN;exact⟨_,rfl,zaa hE2.x,hlt hE2.x,fEnd hE2 gN⟩
   ·refine⟨_,rfl,zaa hE.x,hlt hE.x,cmo (zdY hE.p 6 [41]) ?_⟩;rintro e2 N ⟨rfl,hN,gN⟩;exact fEnd (hE.grown hN gN) gN
 ·have hbf:b=false:=hbf;rw [hbf] at hb;rw [JZ (by rw [<- hb];exact JU)] at hR;refine⟨zad zT none 0,rfl,cmo (zbV hX.p 110) ?_⟩;rintro e2 V ⟨rfl,hV,gV⟩;exact (hX.grown hV gV).none hR
end
theorem zps {n:Nat} (h:n<=255):u8n n=u8 (UInt8.ofNat n):=by
 unfold u8n u8;rw [UInt8.toNat_ofNat',Nat.mod_eq_of_lt (by omega)]
section
variable {Q:Nat->Prop} {w:World}
theorem KidsT.one {t:Trm} {q:Option Addr} {cap b:Nat} (hb:Q b) (hc:zav w ⟨b,0,none⟩ (zad t q cap)) (hn:t.name.length<=8192) (hk:KidsT Q w q t.kids):KidsT Q w (some ⟨b,0,none⟩) [t] :=
 .mk _ [t] (by show 1<=_;decide) b 0 (.inr rfl) (fun _=>q) (fun _=>cap) (fun i hi=>by
  obtain rfl:i=0:=by have:i<1:=hi;omega
  exact⟨by show t.name.length<=_;omega,hb,hc⟩) (fun i hi=>by
  obtain rfl:i=0:=by have:i<1:=hi;omega
  exact hk)
theorem KidsT.two {t u:Trm} {q p:Option Addr} {cap cp b:Nat} (hb:Q b) (hc:zav w ⟨b,0,none⟩ (zad t q cap++zad u p cp)) (hn:t.name.length<=140737488351232) (hk:KidsT Q w q t.kids) (hn2:u.name.length<=140737488351232) (hk2:KidsT Q w p u.kids):KidsT Q w (some ⟨b,0,none⟩) [t,u]:=by
 have hc2:=znv.1 hc;refine .mk _ [t,u] (by show 2<=_;decide) b 0 (.inr rfl) (fun i=>if i=0 then q else p) (fun i=>if i=0 then cap else cp) (fun i hi=>?_) (fun i hi=>?_)
 ·have hi:i<2:=hi;rcases (by omega:i=0\/i=1) with rfl | rfl
  ·exact⟨by show t.name.length<=_;omega,hb,hc2.1⟩
  ·exact⟨by show u.name.length<=_;omega,hb,hc2.2⟩
 ·have hi:i<2:=hi;rcases (by omega:i=0\/i=1) with rfl | rfl
  ·exact hk
  ·exact hk2
end
def zhz (st:PS):Nat->Nat
 | 0=>0
 | i+1=>if isP st (zb1.getD (6+i) []) then 6+i else zhz st i
theorem zkl (st:PS):∀ i,i<=3->zhz st i<=8
 | 0,_=>Jh _
 | i+1,h=>by
  unfold zhz
  split
  ·omega
  ·exact zkl st i (by omega)
theorem zmq {st:PS} (h:zew st≠0):1<=st.tok.text.length:=by
 unfold zew at h
 split at h
 ·rename_i h1;rw [zds h1];decide
 ·split at h
  ·rename_i h1;rw [zds h1];decide
  ·split at h
   ·rename_i h1;rw [zds h1];decide
   ·exact Kv rfl h
theorem ziE {st:PS} (h:zbk st≠0):1<=st.tok.text.length/\2<=zbk st/\zbk st<=5/\strL.getD (zbk st) 0=zbk st-1:=by
 unfold zbk at h ⊢
 split
 ·rename_i h1;rw [zds h1];decide
 ·split
  ·rename_i h1;rw [zds h1];decide
  ·split
   ·rename_i h1;rw [zds h1];decide
   ·split
    ·rename_i h1;rw [zds h1];decide
    ·rename_i h1 h2 h3 h4;rw [JZ h1,JZ h2,JZ h3,JZ h4] at h;exact Kv rfl h
theorem zmN {s:Bs} {st st2:PS} (h:zcG (zaz s) st=(true,st2)) (hl:1<=st.tok.text.length):st.tok.at_+1<=st2.tok.at_:=by
 unfold zcG at h
 split at h
 ·cases h
 ·have h2:=(Prod.mk.inj h).2;rw [<- h2];have:=zmH s { st with nodes:=st.nodes+1 };refine Jj ?_ this;show _<=st.tok.at_+st.tok.text.length;omega
section
variable {g l c:Nat} {s:Bs} {st:PS} {w w2 X:World}
theorem SimB.store {tb:Nat} {t t':Trm} {q q':Option Addr} {cap cap':Nat} {Y:World} (h:SimB w g l c s st tb t q cap Y) {K:World->Prop} (k:∀ Z,SimB w g l c s st tb t' q' cap' Z->(∀ j,j≠tb->Z.heap[j]?=Y.heap[j]?)->K Z) :
  SatR ((storeVar 24 ⟨tb,0,none⟩ (.agg (zad t' q' cap').toArray)).run Tryz.prog Y) fun _ w'=>K w' :=
 zfO (t:=t') (q:=q') (cap:=cap') (Nat.le_of_lt h.lt) h.x rfl h.p h.o h.g fun Z hZ gZ fZ oZ _=>k Z ⟨hZ,(oZ _ (by have:=h.lt;omega)).trans h.r,fZ,gZ,h.lt,h.g⟩ oZ
theorem SimB.below {tb:Nat} {t:Trm} {q:Option Addr} {cap:Nat} {Y Z:World} (h:SimB w g l c s st tb t q cap Y) (hb:Bw Y Z):SimB w g l c s st tb t q cap Z :=
 h.grown (h.p.below hb) (zag hb)
theorem zoa {n:Nat} (hT:znN g l c s n) (h:ParB g l c s st w) (hf:4*(s.length-st.tok.at_)<=n) :
  Calls Tryz.prog 162 #[At0 g] w (TrmR g l c s w (tightP (zaz s) (n+2) st)):=by
 refine cofM 36 [At0 g] (.c .p (.s .p (.s (.b (.l (.s .p (.b (.s .p (.c .p (.c .p (.c .p .p)))))))) .p))) Tryz.func162 ?_;obtain⟨R,hR⟩:=nm (tightP (zaz s) (n+2) st);rw [<- hR];rw [tightP] at hR;refine⟨Unit,fun _=>⟨[(0,At0 g),(2,At0 w.heap.size)],[]⟩,fun _ X=>AnsB w g l c s st X,⟨(),(cvE rfl rfl),h.below (zba _ _),hnew w _,zag (zba _ _),h.lt⟩,?_⟩;rintro _ X hX;refine cmo (zl0 hT hX.p hf) ?_;rintro e V ⟨t,q,cap,rfl,hk,hV,gV⟩;have hm:=(zdp (s:=s) (n+1)).2.2.2.2 st;rcases hsm:simpleP (zaz s) (n+1) st with ⟨r1,st1⟩;rw [hsm] at hk hV hm hR;dsimp only at hk hV hm hR;have hXs:=hlt hX.r;have hVV:=hX.grown hV gV;refine hVV.box rfl fun U hU bU _=>?_;obtain⟨tb,htb⟩:=nm (V.heap.size);rw [<- htb] at hU ⊢;refine⟨Trm×Option Addr×Nat×Bool×PS×Nat,fun y=>⟨[(0,At0 g),(2,At0 w.heap.size),(4,At0 tb),(5,.bool y.2.2.2.1)],[]⟩,
  fun y Y=>SimB w g l c s y.2.2.2.2.1 tb y.1 y.2.1 y.2.2.1 Y /\
   (y.2.2.2.1=true->y.1.name.length<=8192/\KidsT (fun b=>w.heap.size<b/\b≠tb) Y y.2.1 y.1.kids/\R=postsP (zaz s) y.2.2.2.2.2 y.1 y.2.2.2.2.1/\s.length-y.2.2.2.2.1.tok.at_+1<=y.2.2.2.2.2) /\
   (y.2.2.2.1=false->R=(none,y.2.2.2.2.1)),
  fun y=>if y.2.2.2.1 then y.2.2.2.2.2+1 else 0,(t,q,cap,r1.isSome,st1,n+1),(cvE rfl rfl),?_,?_⟩
 ·refine⟨hU,fun ho=>?_,fun ho=>?_⟩
  ·cases r1 with
   | none=>cases ho
   | some t1 =>
    obtain⟨e1,e2,e3⟩:=hk t1 rfl;refine⟨e2,(e3.there.kept bU).weak fun b hb=>by omega,by rw [hR,<- e1],?_⟩;have h1:=hm.1;dsimp only;omega
  ·cases r1 with
   | none=>exact hR
   | some t1=>cases ho
 clear hk hm hR hU bU hVV hV gV hT hf hsm hXs hX;rintro⟨t,q,cap,ok,st1,f1⟩ Y ⟨hY,hok,hno⟩;dsimp only at hY hok hno ⊢;refine biE (fun ho=>?_) fun ho=>?_
 ·have ho:ok=true:=ho;subst ho;obtain⟨hn,hk,hR,hf1⟩:=hok rfl;clear hok hno;obtain⟨f',rfl⟩:∃ f',f1=f'+1:=⟨f1-1,by omega⟩;rw [postsP] at hR;refine⟨Unit,fun _=>⟨[(0,At0 g),(2,At0 w.heap.size),(4,At0 tb),(5,.bool true),(6,u8n (zew st1))],[]⟩,fun _ V=>Y=V,?_,?_⟩
  ·refine⟨[.int .u8 6,.int .u8 7,.int .u8 8],rfl,?_⟩;refine⟨Nat,fun i=>⟨[(0,At0 g),(2,At0 w.heap.size),(4,At0 tb),(5,.bool true),(6,u8n (zhz st1 i)),(15,.agg #[.int .u8 6,.int .u8 7,.int .u8 8]),(16,.int .i64 (i:Nat))],[]⟩,fun i V=>i<=3/\Y=V,fun i=>3-i,0,
    (cvE rfl rfl),⟨Jh _,rfl⟩,?_⟩
   rintro i _ ⟨hi,rfl⟩;refine biE (fun h1=>?_) fun h1=>?_
   ·have h1:(i:Int)<3:=dT h1;have hget:[Value.int .u8 6,.int .u8 7,.int .u8 8][i*1]?=some (u8n (6+i)):=by
     rcases (by omega:i=0\/i=1\/i=2) with rfl | rfl | rfl <;> rfl
    refine⟨i,rfl,by omega,?_⟩;refine zcO hget ⟨6+i,rfl,by omega,?_⟩;refine⟨_,by rw [Jp];exact zhu hY.p.glob (by omega),cmo (is_c hY.p (zb1.getD (6+i) [])) ?_⟩;rintro e _ ⟨rfl,rfl⟩;refine biE (fun h2=>?_) fun h2=>?_
    ·have h2:isP st1 (zb1.getD (6+i) [])=true:=h2;have e:zhz st1 (i+1)=6+i:=(by rw [zhz,Kc h2]);exact nxI (by omega) ⟨i+1,⟨.cons rfl (.cons rfl (.cons rfl (.cons rfl (.cons (congrArg (fun n:Nat=>some (u8n n)) e.symm) (.cons rfl (.cons rfl .nil)))))),rfl⟩,⟨by omega,rfl⟩,by dsimp only;omega⟩
    ·have h2:isP st1 (zb1.getD (6+i) [])=false:=h2;have e:zhz st1 (i+1)=zhz st1 i:=(by rw [zhz,JZ (by rw [h2];exact JU)]);exact nxI (by omega) ⟨i+1,⟨.cons rfl (.cons rfl (.cons rfl (.cons rfl (.cons (congrArg (fun n:Nat=>some (u8n n)) e.symm) (.cons rfl (.cons rfl .nil)))))),rfl⟩,⟨by omega,rfl⟩,by dsimp only;omega⟩
   ·have h1:¬ (i:Int)<3:=dF h1;obtain rfl:i=3:=(by omega);exact⟨(),(cvE rfl rfl),rfl⟩
  rintro _ _ rfl;refine⟨Unit,fun _=>⟨[(0,At0 g),(2,At0 w.heap.size),(4,At0 tb),(6,u8n (zew st1))],[]⟩,fun _ V=>zew st1≠0/\Y=V,?_,?_⟩
  ·refine biE (fun h2=>?_) fun h2=>?_
   ·have h2:((zew st1:Nat):Int)=0:=dT h2;rw [Kc (by omega)] at hR;refine⟨_,rfl,zaa hY.x,hlt hY.x,?_⟩;exact hY.ans.fin (by rw [hR];rfl) (by rw [hR]) fun x hx=>by
     rw [hR] at hx;exact⟨(Jg hx).symm,hn,hk.weak fun b hb=>hb.1⟩
   ·have h2:¬ ((zew st1:Nat):Int)=0:=dF h2;exact⟨(),(cvE rfl rfl),by omega,rfl⟩
  rintro _ _ ⟨hp0,rfl⟩;rw [JZ hp0] at hR;have hp8:zew st1<=8:=zkl st1 3 (by decide);have hlen1:=zmq hp0;rcases hne:zcG (zaz s) st1 with ⟨b,st2⟩;rw [hne] at hR;refine⟨Unit,fun _=>⟨[(0,At0 g),(2,At0 w.heap.size),(4,At0 tb),(5,.bool b),(6,u8n (zew st1))],[]⟩,fun _ N=>SimB w g l c s st2 tb t q cap N/\KidsT (fun b=>w.heap.size<b/\b≠tb) N q t.kids,?_,?_⟩
  ·refine cmo (ziK hY.p) ?_;rw [hne];rintro e N ⟨rfl,hN,gN⟩;have:=hY.g;exact⟨(),(cvE rfl rfl),hY.grown hN gN,hk.by fun b cs ty fr hb hc=>gN.block b (hlt hc) (by simp;omega)⟩
  have hps:=hY.p.pos;clear hY hk Y;rintro _ N ⟨hN,hk⟩;refine⟨_,rfl,zaa hN.x,hlt hN.x,⟨by decide,by decide,rfl⟩,zad t q cap,rfl,zad (.mk (UInt8.ofNat (zew st1)) [] [t]) (some ⟨N.heap.size,0,none⟩) 1,?_,?_⟩
  ·show some [u8n (zew st1),strV [],.slice (some ⟨N.heap.size,0,none⟩) 1 1]=_;rw [zps (by omega)];rfl
  have hlx:=hlt hN.x;have bN:=zba N (.cells (zad t q cap).toArray 24);have fnb:=hnew N (.cells (zad t q cap).toArray 24);refine (hN.below bN).store fun Z hZ oZ=>⟨(.mk (UInt8.ofNat (zew st1)) [] [t],some ⟨N.heap.size,0,none⟩,1,b,st2,f'),(cvE rfl rfl),⟨hZ,fun hb=>?_,fun hb=>?_⟩,?_⟩
  ·have hb:b=true:=hb;subst hb;have hon:=zmN hne hlen1;have:=hN.lt;refine⟨by show ([]:Bs).length<=_;decide,.one (q:=q) (cap:=cap) ⟨by omega,by omega⟩ ?_ hn ?_,hR,by dsimp only;omega⟩
   ·exact zaa ((oZ _ (by omega)).trans fnb)
   ·exact (hk.kept bN).by fun b cs ty fr hb hc=>oZ b hb.2
  ·have hb:b=false:=hb;subst hb;exact hR
  ·cases b
   ·show 0<f'+1+1;omega
   ·show f'+1<f'+1+1;omega
 ·have ho:ok=false:=ho;subst ho;have hR:=hno rfl;exact⟨zad zT none 0,rfl,hY.ans.none hR⟩
end
section
variable {g l c:Nat} {s:Bs} {st:PS} {w w2 X:World}
theorem zp3 {n:Nat} (hT:∀ f,f<n+3->znN g l c s f):znN g l c s (n+3):=by
 intro least st w hl5 h hf;refine cofM 46 [At0 g,i64 (least:Nat)] (.c .p (.s .p (.s (.b (.l (.s .p (.b (.c .p (.c .p (.c .p (.s .p (.c .p .p)))))))) ) .p))) Tryz.func111 ?_;obtain⟨R,hR⟩:=nm (termP (zaz s) (n+3) least st);rw [<- hR];rw [termP] at hR;refine⟨Unit,fun _=>⟨[(0,At0 g),(1,i64 (least:Nat)),(4,At0 w.heap.size)],[]⟩,fun _ X=>AnsB w g l c s st X,⟨(),(cvE rfl rfl),h.below (zba _ _),hnew w _,zag (zba _ _),h.lt⟩,?_⟩;rintro _ X hX;refine cmo (zoa (hT n (by omega)) hX.p (by omega)) ?_;rintro e V ⟨t,q,cap,rfl,hk,hV,gV⟩;have hm:=(zdp (s:=s) (n+2)).2.2.1 st;rcases hsm:tightP (zaz s) (n+2) st with ⟨r1,st1⟩;rw [hsm] at hk hV hm hR;dsimp only at hk hV hm hR;have hXs:=hlt hX.r;have hVV:=hX.grown hV gV;refine hVV.box rfl fun U hU bU _=>?_;obtain⟨tb,htb⟩:=nm (V.heap.size);rw [<- htb] at hU ⊢;refine⟨Trm×Option Addr×Nat×Bool×PS×Nat,fun y=>⟨[(0,At0 g),(1,i64 (least:Nat)),(4,At0 w.heap.size),(6,At0 tb),(7,.bool y.2.2.2.1)],[]⟩,
  fun y Y=>SimB w g l c s y.2.2.2.2.1 tb y.1 y.2.1 y.2.2.1 Y/\y.2.2.2.2.2<=n+2 /\
   (y.2.2.2.1=true->y.1.name.length<=8192/\KidsT (fun b=>w.heap.size<b/\b≠tb) Y y.2.1 y.1.kids/\R=moreP (zaz s) y.2.2.2.2.2 least y.1 y.2.2.2.2.1/\4*(s.length-y.2.2.2.2.1.tok.at_)+1<=y.2.2.2.2.2) /\
   (y.2.2.2.1=false->R=(none,y.2.2.2.2.1)),
  fun y=>if y.2.2.2.1 then y.2.2.2.2.2+1 else 0,(t,q,cap,r1.isSome,st1,n+2),(cvE rfl rfl),?_,?_⟩
 ·refine⟨hU,Jb _,fun ho=>?_,fun ho=>?_⟩
  ·cases r1 with
   | none=>cases ho
   | some t1 =>
    obtain⟨e1,e2,e3⟩:=hk t1 rfl;refine⟨e2,(e3.there.kept bU).weak fun b hb=>by omega,by rw [hR,<- e1],?_⟩;have h1:=hm.1;dsimp only;omega
  ·cases r1 with
   | none=>exact hR
   | some t1=>cases ho
 clear hk hm hR hU bU hVV hV gV hf hsm hXs hX;rintro⟨t,q,cap,ok,st1,f1⟩ Y ⟨hY,hfn,hok,hno⟩;dsimp only at hY hfn hok hno ⊢;refine biE (fun ho=>?_) fun ho=>?_
 ·have ho:ok=true:=ho;subst ho;obtain⟨hn,hk,hR,hf1⟩:=hok rfl;clear hok hno;obtain⟨f',rfl⟩:∃ f',f1=f'+1:=⟨f1-1,by omega⟩;rw [moreP] at hR;have hps:=hY.p.pos;refine⟨Unit,fun _=>⟨[(0,At0 g),(1,i64 (least:Nat)),(4,At0 w.heap.size),(6,At0 tb),(7,.bool true),(8,u8n (zbk st1))],[]⟩,fun _ V=>Y=V,?_,?_⟩
  ·refine cmo (zld hY.p) ?_;rintro e _ ⟨rfl,rfl⟩;exact⟨(),(cvE rfl rfl),rfl⟩
  rintro _ _ rfl;refine⟨Unit,fun _=>⟨[(0,At0 g),(1,i64 (least:Nat)),(4,At0 w.heap.size),(6,At0 tb),(8,u8n (zbk st1))],[]⟩,fun _ V=>zbk st1≠0/\¬ zbk st1-1<least/\Y=V,?_,?_⟩
  ·have stop:(zbk st1=0\/zbk st1-1<least)->∃ us:List Value,us.length=3/\zav Y ⟨tb,0,none⟩ us/\tb<Y.heap.size /\
     SatR ((storeVar 24 ⟨w.heap.size,0,none⟩ (.agg us.toArray)).run Tryz.prog Y) fun _ w'=>∃ us:List Value,us.length=3/\zav w' ⟨w.heap.size,0,none⟩ us/\TrmR g l c s w R (.returned (zcp [.agg us.toArray,.bool true])) w':=by
    intro hc;rw [Kc hc] at hR;refine⟨_,rfl,zaa hY.x,hlt hY.x,?_⟩;exact hY.ans.fin (by rw [hR];rfl) (by rw [hR]) fun x hx=>by
     rw [hR] at hx;exact⟨(Jg hx).symm,hn,hk.weak fun b hb=>hb.1⟩
   refine biE (fun h2=>?_) fun h2=>?_
   ·have h2:((zbk st1:Nat):Int)=0:=dT h2;exact brT (stop (.inl (by omega)))
   have h2:¬ ((zbk st1:Nat):Int)=0:=dF h2;have hp0:zbk st1≠0:=by omega
   obtain⟨_,ho2,ho5,hst⟩:=ziE hp0;refine⟨zbk st1,rfl,by omega,?_⟩;have hsa:=zcB hY.p.glob (k:=zbk st1) (by omega);rw [hst] at hsa;refine⟨_,by rw [Jp];exact hsa,?_⟩;refine biE (fun h3=>?_) fun h3=>?_
   ·have h3:((zbk st1-1:Nat):Int)<(least:Int):=dT h3;exact stop (.inr (by omega))
   ·have h3:¬ ((zbk st1-1:Nat):Int)<(least:Int):=dF h3;exact⟨(),(cvE rfl rfl),hp0,by omega,rfl⟩
  rintro _ _ ⟨hp0,hnl,rfl⟩;obtain⟨hlen1,ho2,ho5,hst⟩:=ziE hp0;rw [JZ (by rintro (h | h);exact hp0 h;exact hnl h)] at hR;rcases hne:zcG (zaz s) st1 with ⟨b,st2⟩;rw [hne] at hR;refine⟨Unit,fun _=>⟨[(0,At0 g),(1,i64 (least:Nat)),(4,At0 w.heap.size),(6,At0 tb),(8,u8n (zbk st1))],[]⟩,fun _ N=>b=true/\SimB w g l c s st2 tb t q cap N/\KidsT (fun b=>w.heap.size<b/\b≠tb) N q t.kids,?_,?_⟩
  ·refine cmo (ziK hY.p) ?_;rw [hne];rintro e N ⟨rfl,hN,gN⟩;have hYN:=hY.grown hN gN;have:=hY.g;refine biE (fun h4=>?_) fun h4=>?_
   ·have h4:(!b)=true:=h4;have h4:b=false:=(by simpa using h4);subst h4;exact⟨zad zT none 0,rfl,hYN.ans.none hR⟩
   ·have h4:(!b)=false:=h4;exact⟨(),(cvE rfl rfl),by simpa using h4,hYN,hk.by fun b cs ty fr hb hc=>gN.block b (hlt hc) (by simp;omega)⟩
  have hon:b=true->st1.tok.at_+1<=st2.tok.at_:=fun hb=>by subst hb;exact zmN hne hlen1
  clear hY hk;rintro _ N ⟨rfl,hN,hk⟩;have hon:=hon rfl;dsimp only at hR;rcases htm:termP (zaz s) f' (zbk st1) st2 with ⟨r2,st3⟩;rw [htm] at hR;have hm2:=(zdp (s:=s) f').1 (zbk st1) st2;rw [htm] at hm2;have hlx:=hlt hN.x;refine⟨Nat×Trm×Option Addr×Nat,fun y=>⟨[(0,At0 g),(1,i64 (least:Nat)),(4,At0 w.heap.size),(6,At0 tb),(7,.bool r2.isSome),(8,u8n (zbk st1)),(9,At0 y.1)],[]⟩,fun y P=>SimB w g l c s st3 tb t q cap P/\KidsT (fun b=>w.heap.size<b/\b≠tb) P q t.kids /\
   P.heap[y.1]?=some (.cells (zad y.2.1 y.2.2.1 y.2.2.2).toArray 24 (0,0))/\∀ x,r2=some x->x=y.2.1/\y.2.1.name.length<=8192/\KidsT (fun b=>w.heap.size<b/\b≠tb) P y.2.2.1 y.2.1.kids,?_,?_⟩
  ·obtain⟨M,hM⟩:=nm (N.alloc (.cells (zad zT none 0).toArray 24));have bM:Bw N M:=by rw [hM];exact zba _ _
   have fm:M.heap[N.heap.size]?=some (.cells (zad zT none 0).toArray 24 (0,0)):=by rw [hM];exact hnew N _
   have sM:M.heap.size=N.heap.size+1:=by rw [hM];exact wz _ _
   have hNM:=hN.below bM;have hkM:=hk.kept bM;refine⟨zbk st1,rfl,by omega,?_⟩;have hsa:=zcB hNM.p.glob (k:=zbk st1) (by omega);rw [hst,hM] at hsa;refine⟨_,by rw [Jp];exact hsa,?_⟩;refine⟨((zbk st1:Nat):Int),(zaj (by omega)).trans (by omega),?_⟩;have hcall:=hT f' (by omega) (zbk st1) st2 M ho5 hNM.p (by omega);rw [htm,hM] at hcall;refine cmo hcall ?_;rw [<- hM];rintro e P ⟨u,p,cp,rfl,hku,hP,gP⟩;dsimp only at hku hP;have hgw:=hN.g;have hP2:=hNM.grown hP gP;have fmP:=(gP.block _ (hlt fm) (by have:=hN.lt;simp;omega)).trans fm;have sP:=gP.size;refine zfO (t:=u) (q:=p) (cap:=cp) (by have:=hN.lt;omega) fmP rfl hP hP2.o hgw fun O hO gO fO oO sO=>?_;have hlt9:=hN.lt;refine⟨(N.heap.size,u,p,cp),(cvE rfl rfl),⟨hO,(oO _ (by omega)).trans hP2.r,(oO _ (by omega)).trans hP2.x,gO,hlt9,hgw⟩,?_,fO,fun x hx=>?_⟩
   ·have k1:KidsT (fun b=>(w.heap.size<b/\b≠tb)/\b<N.heap.size) N q t.kids:=hk.there;refine (k1.by fun b cs ty fr hb hc=>?_).weak fun b hb=>hb.1;rw [oO b (by omega),gP.block b (by omega) (by simp;omega),bM.block b hb.2]
   ·obtain⟨e1,e2,e3⟩:=hku x hx;refine⟨e1,e2,(e3.by fun b cs ty fr hb hc=>oO b (by omega)).weak fun b hb=>by omega⟩
  clear hN hk;rintro⟨rb2,u,p,cp⟩ O ⟨hO,hkt,fO,hku⟩;dsimp only at fO hku ⊢;refine⟨_,rfl,zaa hO.x,hlt hO.x,_,rfl,zaa fO,hlt fO,⟨by decide,by decide,rfl⟩,zad t q cap++zad u p cp,rfl,zad (.mk (UInt8.ofNat (zbk st1)) [] [t,u]) (some ⟨O.heap.size,0,none⟩) 2,?_,?_⟩
  ·show some [u8n (zbk st1),strV [],.slice (some ⟨O.heap.size,0,none⟩) 2 2]=_;rw [zps (by omega)];rfl
  have hlo:=hlt hO.x;have bN:=zba O (.cells (zad t q cap++zad u p cp).toArray 24);have fnb:=hnew O (.cells (zad t q cap++zad u p cp).toArray 24);refine (hO.below bN).store fun Z hZ oZ=>⟨(.mk (UInt8.ofNat (zbk st1)) [] [t,u],some ⟨O.heap.size,0,none⟩,2,r2.isSome,st3,f'),(cvE rfl rfl),⟨hZ,by dsimp only;omega,fun hb=>?_,fun hb=>?_⟩,?_⟩
  ·cases r2 with
   | none=>cases hb
   | some t2 =>
    obtain⟨e1,e2,e3⟩:=hku t2 rfl;have hat:=hm2.1;have:=hO.lt;refine⟨by show ([]:Bs).length<=_;decide,.two (q:=q) (cap:=cap) (p:=p) (cp:=cp) ⟨by omega,by omega⟩ ?_ (by omega) ?_ (by omega) ?_,by rw [hR,<- e1],by dsimp only at hat ⊢;omega⟩
    ·exact zaa ((oZ _ (by omega)).trans fnb)
    ·exact (hkt.kept bN).by fun b cs ty fr hb hc=>oZ b hb.2
    ·exact (e3.kept bN).by fun b cs ty fr hb hc=>oZ b hb.2
  ·cases r2 with
   | none=>exact hR
   | some t2=>cases hb
  ·show (if r2.isSome then f'+1 else 0)<f'+1+1
   split <;> omega
 ·have ho:ok=false:=ho;subst ho;have hR:=hno rfl;exact⟨zad zT none 0,rfl,hY.ans.none hR⟩
theorem zj5:∀ f,znN g l c s f:=fun f=>by
 induction f using Nat.strongRecOn with
 | ind f ih =>
  match f,ih with
  | 0,_=>exact fun least st w _ _ hf=>Kv hf (by omega)
  | 1,_=>exact fun least st w _ _ hf=>Kv hf (by omega)
  | 2,_=>exact fun least st w _ _ hf=>Kv hf (by omega)
  | n+3,ih=>exact zp3 ih
end
structure Oth (g l c:Nat) (w w':World):Prop where
 os:w'.os=w.os
 tape:w'.tape=w.tape
 output:w'.output=w.output
 size:w.heap.size<=w'.heap.size
 block:∀ j,j<w.heap.size->j≠g->j≠l->j≠c->w'.heap[j]?=w.heap[j]?
def zas (k:Nat) (nq:Bs) (t:Trm) (q:Option Addr) (cap:Nat):List Value:=u8n k::strV nq::zad t q cap
def LinR (g l c:Nat) (s:Bs) (w:World) (r:Option LineD×PS) (e:Ending) (w':World):Prop :=
 ∃ (k:Nat) (nq:Bs) (t:Trm) (q:Option Addr) (cap:Nat),e = .returned (.tuple #[.agg (zas k nq t q cap).toArray,.bool r.1.isSome]) /\
  (∀ x,r.1=some x->x=⟨k,nq,t⟩/\k<=3/\nq.length<=8192/\t.name.length<=8192/\KidsT (fun b=>w.heap.size<=b) w' q t.kids)/\ParB g l c s r.2 w'/\Oth g l c w w'
section
variable {g l c:Nat} {s:Bs} {st:PS} {w w2 w3 X:World}
theorem Oth.of_grown (h:w.grownBy w2 (some g)):Oth g l c w w2:=⟨h.os,h.tape,h.output,h.size,fun j hj h1 _ _=>h.block j hj (by simp;omega)⟩
theorem Oth.of_below (h:Bw w w2):Oth g l c w w2:=⟨h.os,h.tape,h.output,h.size,fun j hj _ _ _=>h.block j hj⟩
theorem Oth.trans (h:Oth g l c w w2) (k:Oth g l c w2 w3):Oth g l c w w3 :=
 ⟨k.os.trans h.os,k.tape.trans h.tape,k.output.trans h.output,Jj h.size k.size,fun j hj h1 h2 h3=>(k.block j (nL hj h.size) h1 h2 h3).trans (h.block j hj h1 h2 h3)⟩
theorem Oth.then (h:Oth g l c w w2) (k:Below w.heap.size w2 w3):Oth g l c w w3 :=
 ⟨k.os.trans h.os,k.tape.trans h.tape,k.output.trans h.output,Jj h.size k.size,fun j hj h1 h2 h3=>(k.block j hj).trans (h.block j hj h1 h2 h3)⟩
theorem zfv (f:Bs->Bool) (nq:Bs):(fun q'=>if q'=nq then some (Value.bool true) else mapB f q')=mapB (setP f nq):=by
 funext q;unfold mapB setP;by_cases h:q=nq
 ·rw [Kc h,Ka h];rfl
 ·rw [JZ h,Kb h];rfl
theorem ParB.other (h:ParB g l c s st w) {m:Nat} (hb:w.grownBy w2 (some m)) (hm:m≠g) (ho:3<m) {st':PS} (e1:st'.tok=st.tok) (e2:st'.nodes=st.nodes) (e3:st'.deep=st.deep) (e4:st'.e=st.e)
  (hl:MapF keyS w2 l (mapB st'.lets)) (hc:MapF keyS w2 c (mapB st'.checks)):ParB g l c s st' w2:=by
 refine⟨?_,hl,hc,h.ord,h.glob.grown ho hb,h.len,by rw [e1];exact h.pos,by rw [e2];exact h.nod,by rw [e3];exact h.dep⟩;rw [hb.block g h.lt (by simp;omega),h.f];unfold zdm;rw [e1,e2,e3,e4]
theorem ParB.setL (h:ParB g l c s st w) (nq:Bs) {K:World->Prop} (k:∀ Y,ParB g l c s { st with lets:=setP st.lets nq } Y->w.grownBy Y (some l)->K Y) :
  SatR ((Instr.mapUpdate 105 (.map (some l)) (strV nq) (.bool true)).run Tryz.prog w) fun _ w'=>K w':=by
 obtain⟨o,hr,hm⟩:=zbx skey Tryz.underlying105 h.lm nq (.bool true);have og:=h.ord;have gr:=zeH w l o;refine SatR.mk hr (k _ (h.other gr (by omega) og.1 rfl rfl rfl rfl (by rw [zfv] at hm;exact hm) (h.cm.same (gr.block c (zbT h.cm) (by simp;omega)))) gr)
theorem ParB.setC (h:ParB g l c s st w) (nq:Bs) {K:World->Prop} (k:∀ Y,ParB g l c s { st with checks:=setP st.checks nq } Y->w.grownBy Y (some c)->K Y) :
  SatR ((Instr.mapUpdate 105 (.map (some c)) (strV nq) (.bool true)).run Tryz.prog w) fun _ w'=>K w':=by
 obtain⟨o,hr,hm⟩:=zbx skey Tryz.underlying105 h.cm nq (.bool true);have og:=h.ord;have gr:=zeH w c o;refine SatR.mk hr (k _ (h.other gr (by omega) (by omega) rfl rfl rfl rfl (h.lm.same (gr.block l (zbT h.lm) (by simp;omega))) (by rw [zfv] at hm;exact hm)) gr)
structure LinB (w:World) (g l c:Nat) (k:Nat) (nq:Bs) (t:Trm) (q:Option Addr) (cap:Nat) (Y:World):Prop where
 p:Y.heap[w.heap.size]?=some (.cells #[At0 g] 132 (0,0))
 r:Y.heap[w.heap.size+1]?=some (.cells (zas 0 [] zT none 0).toArray 49 (0,0))
 x:Y.heap[w.heap.size+2]?=some (.cells (zas k nq t q cap).toArray 49 (0,0))
 o:Oth g l c w Y
theorem LinB.grown {k:Nat} {nq:Bs} {t:Trm} {q:Option Addr} {cap m:Nat} {Y Z:World} (h:LinB w g l c k nq t q cap Y) (hm:m=g\/m=l\/m=c) (hg:m<w.heap.size) (hb:Y.grownBy Z (some m)):LinB w g l c k nq t q cap Z:=by
 have sm:∀ {j:Nat} {ob:Obj},w.heap.size<=j->Y.heap[j]?=some ob->Z.heap[j]?=some ob:=fun {j ob} hj hk=>(hb.block j (hlt hk) (by simp;omega)).trans hk;refine⟨sm (Jb _) h.p,sm (by omega) h.r,sm (by omega) h.x,h.o.trans ⟨hb.os,hb.tape,hb.output,hb.size,fun j hj h1 h2 h3=>hb.block j hj (by simp;omega)⟩⟩
theorem LinB.below {k:Nat} {nq:Bs} {t:Trm} {q:Option Addr} {cap:Nat} {Y Z:World} (h:LinB w g l c k nq t q cap Y) (hb:Bw Y Z):LinB w g l c k nq t q cap Z :=
 ⟨zab hb h.p,zab hb h.r,zab hb h.x,h.o.trans (.of_below hb)⟩
theorem LinB.store {k:Nat} {nq:Bs} {t:Trm} {q:Option Addr} {cap:Nat} {Y:World} (h:LinB w g l c k nq t q cap Y) (hY:ParB g l c s st Y) (hg:g<w.heap.size) {k':Nat} {nq':Bs} {t':Trm} {q':Option Addr} {cap':Nat} {K:World->Prop}
  {Te:TypeId} {o:Nat} {v:Value} {iT:TI} (hT:TIok Tryz.prog Te iT) (hv:v.cells.size=iT.size) (ho:o+v.cells.size<=5) (h1:v.cells.toList.all Value.oneCell'=true)
  (e:(zas k nq t q cap).take o++v.cells.toList++(zas k nq t q cap).drop (o+v.cells.size)=zas k' nq' t' q' cap')
  (kk:∀ Z,ParB g l c s st Z->LinB w g l c k' nq' t' q' cap' Z->(∀ j,j≠w.heap.size+2->Z.heap[j]?=Y.heap[j]?)->Z.heap.size=Y.heap.size->K Z) :
  SatR ((storeVar Te ⟨w.heap.size+2,o,none⟩ v).run Tryz.prog Y) fun _ w'=>K w':=by
 refine zbs hT h.x (o:=o) (v:=v) hv (by show o+v.cells.size<=5;exact ho) h1 fun Z fZ gZ sZ=>?_;have sm:∀ j,j≠w.heap.size+2->Z.heap[j]?=Y.heap[j]?:=fun j hj=>by
  by_cases hl:j<Y.heap.size
  ·exact gZ.block j hl (by simp;omega)
  ·rw [Array.getElem?_eq_none (by omega),Array.getElem?_eq_none (by omega)]
 have bZ:Below (g+1) Y Z:=⟨gZ.os,gZ.tape,gZ.output,gZ.size,fun j hj=>sm j (by omega)⟩;have bW:Below w.heap.size Y Z:=⟨gZ.os,gZ.tape,gZ.output,gZ.size,fun j hj=>sm j (by omega)⟩;refine kk Z (hY.upto bZ) ⟨(sm _ (by omega)).trans h.p,(sm _ (by omega)).trans h.r,?_,h.o.then bW⟩ sm sZ;rw [fZ];have:(zas k nq t q cap).toArray.toList=zas k nq t q cap:=rfl;rw [this,e]
theorem LinB.fin {k:Nat} {nq:Bs} {t:Trm} {q:Option Addr} {cap:Nat} {Y:World} (h:LinB w g l c k nq t q cap Y) (hY:ParB g l c s st Y) (hg:g<w.heap.size) {R:Option LineD×PS} {ok:Bool} {k':Nat} {nq':Bs} {t':Trm} {q':Option Addr} {cap':Nat} (e1:R.1.isSome=ok) (e2:R.2=st)
  (e3:∀ x,R.1=some x->x=⟨k',nq',t'⟩/\k'<=3/\nq'.length<=8192/\t'.name.length<=8192/\KidsT (fun b=>w.heap.size+2<b) Y q' t'.kids) :
  SatR ((storeVar 49 ⟨w.heap.size+1,0,none⟩ (.agg (zas k' nq' t' q' cap').toArray)).run Tryz.prog Y) fun _ w'=>∃ us:List Value,us.length=5/\zav w' ⟨w.heap.size+1,0,none⟩ us/\LinR g l c s w R (.returned (zcp [.agg us.toArray,.bool ok])) w':=by
 refine zao (v := .agg (zas k' nq' t' q' cap').toArray) k49 h.r rfl rfl rfl ?_;have b1:=zah (B:=w.heap.size) (Ja _ Y) (Nat.le_succ w.heap.size) (zas k' nq' t' q' cap').toArray;have b2:=zah (B:=g+1) (Ja _ Y) (by omega:g+1<=w.heap.size+1) (zas k' nq' t' q' cap').toArray;refine⟨zas k' nq' t' q' cap',rfl,zaa (zal h.r),k',nq',t',q',cap',by rw [e1];rfl,fun x hx=>?_,by rw [e2];exact hY.upto b2,h.o.then b1⟩;obtain⟨h1,h2,h3,h4,h5⟩:=e3 x hx;exact⟨h1,h2,h3,h4,(h5.by fun b cs ty fr hb hc=>zam (by omega)).weak fun b hb=>by omega⟩
end
section
variable {g l c:Nat} {s:Bs} {st:PS} {w w2 w3 X:World}
theorem ziP {used:Bs->Bool} {nq:Bs} {st2:PS} (h:zcm (zaz s) used st=(some nq,st2)) (hp:st.tok.at_+st.tok.text.length<=s.length):nq.length<=s.length:=by
 unfold zcm at h
 split at h
 ·cases h
 ·split at h
  ·cases h
  ·rw [<- Jg (Prod.mk.inj h).1];omega
def CutL (g l c:Nat) (s:Bs) (w:World) (R:Option LineD×PS) (ok:Bool) (k:Nat) (nq:Bs) (t:Trm) (q:Option Addr) (cap:Nat) (st':PS) (Y:World):Prop :=
 ParB g l c s st' Y/\LinB w g l c k nq t q cap Y/\(ok=true->R=endP ⟨k,nq,t⟩ st'/\k<=3/\nq.length<=8192/\t.name.length<=8192/\KidsT (fun b=>w.heap.size+2<b) Y q t.kids)/\(ok=false->R=(none,st'))
theorem zqC (many:Nat) (h:ParB g l c s st w):Calls Tryz.prog 67 #[At0 g,i64 (many:Nat)] w (LinR g l c s w (zem (zaz s) 40000 many st)):=by
 refine cofM 112 [At0 g,i64 (many:Nat)] (.s .p (.c .p (.s .p (.s .p (.s .p (.s .p (.s .p (.c .p (.c .p .p))))))))) Tryz.func67 ?_;obtain⟨R,hR⟩:=nm (zem (zaz s) 40000 many st);rw [<- hR];unfold zem at hR;have hgw:=h.lt;have hlen:=h.len;have hpos:=h.pos;have og:=h.ord;refine⟨Unit,fun _=>⟨[(1,i64 (many:Nat)),(2,At0 w.heap.size),(4,At0 (w.heap.size+1)),(6,At0 (w.heap.size+2))],[]⟩,fun _ Y=>ParB g l c s st Y/\LinB w g l c 0 [] zT none 0 Y,?_,?_⟩
 ·obtain⟨W1,e1⟩:=nm (w.alloc (.cells #[At0 g] 132));have n1:W1.heap.size=w.heap.size+1:=by rw [e1];exact wz _ _
  have f1:W1.heap[w.heap.size]?=some (.cells #[At0 g] 132 (0,0)):=by rw [e1];exact hnew w _
  have b1:Bw w W1:=by rw [e1];exact zba _ _
  obtain⟨W2,e2⟩:=nm (W1.alloc (.cells (zas 0 [] zT none 0).toArray 49));have n2:W2.heap.size=w.heap.size+2:=by rw [e2,wz,n1]
  have f2:W2.heap[w.heap.size+1]?=some (.cells (zas 0 [] zT none 0).toArray 49 (0,0)):=by rw [e2,<- n1];exact hnew W1 _
  have b2:Bw W1 W2:=by rw [e2];exact zba _ _
  obtain⟨W3,e3⟩:=nm (W2.alloc (.cells (zas 0 [] zT none 0).toArray 49));have f3:W3.heap[w.heap.size+2]?=some (.cells (zas 0 [] zT none 0).toArray 49 (0,0)):=by rw [e3,<- n2];exact hnew W2 _
  have b3:Bw W2 W3:=by rw [e3];exact zba _ _
  have b13:=zst b1 (zst b2 b3);refine⟨(),⟨.cons rfl (.cons ?_ (.cons ?_ (.cons ?_ .nil))),rfl⟩,?_⟩
  ·rfl
  ·show some (At0 (w.alloc (.cells #[At0 g] 132)).heap.size)=_;rw [wz]
  ·show some (At0 ((w.alloc (.cells #[At0 g] 132)).alloc (.cells (zas 0 [] zT none 0).toArray 49)).heap.size)=_;rw [wz,wz]
  ·show _/\_;have key:ParB g l c s st W3/\LinB w g l c 0 [] zT none 0 W3:=⟨h.below b13,zab b3 (zab b2 f1),zab b3 f2,f3,.of_below b13⟩;rw [e3,e2,e1] at key;exact key
 rintro _ Y ⟨hY,lY⟩;dsimp only;refine⟨_,zac (zaa lY.p) (i:=0) rfl,_,zac (zaa hY.f) (i:=2) rfl,cmo (zkx st.tok.text Y hY.glob) ?_⟩;rintro e _ ⟨rfl,rfl⟩;have bD:=(Ja Y.heap.size Y).drew;have hD:=hY.below bD;have lD:=lY.below bD;have sz0:w.heap.size+2<Y.heap.size:=hlt lY.x;have bad:∀ n:Int,R=(none,zcZ n st)->∀ {Z:World},ParB g l c s (zcZ n st) Z->Y.drew.grownBy Z (some g)->SatR ((storeVar 49 ⟨w.heap.size+1,0,none⟩ (.agg (zas 0 [] zT none 0).toArray)).run Tryz.prog Z) fun _ w'=>∃ us:List Value,us.length=5/\zav w' ⟨w.heap.size+1,0,none⟩ us/\LinR g l c s w R (.returned (zcp [.agg us.toArray,.bool false])) w':=by
  intro n hR Z hZ gZ;exact (lD.grown (.inl rfl) hgw gZ).fin hZ hgw (by rw [hR];rfl) (by rw [hR]) (fun x hx=>by rw [hR] at hx;cases hx)
 refine⟨_,zac (zaa lY.p) (i:=0) rfl,_,zac (zaa hY.f) (i:=1) rfl,?_⟩;have r4:(st.tok.kind≠3\/zd8 st.tok.text ≥ 4)->R=(none,zcZ 110 st):=fun hc=>by rw [hR,Kc hc]
 refine biE (fun h1=>?_) fun h1=>?_
 ·have h1:(!decide ((st.tok.kind:Int)=((3:Nat):Int)))=true:=h1;rw [zaF] at h1;have hR:=r4 (.inl (by simpa using h1));refine brT (DrawE.treeQ [2,3] (.op 1 (.alt (.op 2 (.op 0 (.op 3 (.op 4 .nil)))) (.op 0 (.op 2 (.op 3 (.op 4 .nil)))))) (by kernel_rfl) ⟨_,zac (zaa lD.p) (i:=0) rfl,Jn ?_ ?_⟩)
  ·refine cmo (zbV hD 110) ?_;rintro e Z ⟨rfl,hZ,gZ⟩;have lZ:=lD.grown (.inl rfl) hgw gZ;exact⟨_,rfl,zaa lZ.x,hlt lZ.x,bad 110 hR hZ gZ⟩
  ·refine⟨_,rfl,zaa lD.x,hlt lD.x,cmo (zbV hD 110) ?_⟩;rintro e Z ⟨rfl,hZ,gZ⟩;exact bad 110 hR hZ gZ
 have h1:(!decide ((st.tok.kind:Int)=((3:Nat):Int)))=false:=h1;rw [zaF] at h1;have h1:st.tok.kind=3:=by simpa using h1
 have hl4:=zoM st.tok.text;refine biE (fun h2=>?_) fun h2=>?_
 ·have h2:zgg st.tok.text<0:=dT h2;have hR:=r4 (.inr (by unfold zgg at h2;split at h2 <;> omega));refine DrawE.treeQ [2,3] (.op 1 (.alt (.op 2 (.op 0 (.op 3 (.op 4 .nil)))) (.op 0 (.op 2 (.op 3 (.op 4 .nil)))))) (by kernel_rfl) ?_;refine⟨_,zac (zaa lD.p) (i:=0) rfl,?_⟩;refine Jn ?_ ?_
  ·refine cmo (zbV hD 110) ?_;rintro e Z ⟨rfl,hZ,gZ⟩;have lZ:=lD.grown (.inl rfl) hgw gZ;exact⟨_,rfl,zaa lZ.x,hlt lZ.x,bad 110 hR hZ gZ⟩
  ·refine⟨_,rfl,zaa lD.x,hlt lD.x,cmo (zbV hD 110) ?_⟩;rintro e Z ⟨rfl,hZ,gZ⟩;exact bad 110 hR hZ gZ
 have h2:¬ zgg st.tok.text<0:=dF h2;have hk4:zd8 st.tok.text<4:=by unfold zgg at h2;split at h2 <;> omega
 have hz:zgg st.tok.text=((zd8 st.tok.text:Nat):Int):=by unfold zgg;rw [Kc hk4]
 rw [JZ (by rintro (h | h);exact h h1;omega)] at hR;rw [hz];refine biE (fun h3=>?_) fun h3=>?_
 ·have h3:(40:Int)<=(many:Int):=dT h3;rw [Kc (by omega)] at hR;refine DrawE.treeQ [2,3] (.op 1 (.alt (.op 2 (.op 0 (.op 3 (.op 4 .nil)))) (.op 0 (.op 2 (.op 3 (.op 4 .nil)))))) (by kernel_rfl) ⟨_,zac (zaa lD.p) (i:=0) rfl,Jn ?_ ?_⟩
  ·refine cmo (zbV hD 5) ?_;rintro e Z ⟨rfl,hZ,gZ⟩;have lZ:=lD.grown (.inl rfl) hgw gZ;exact⟨_,rfl,zaa lZ.x,hlt lZ.x,bad 5 hR hZ gZ⟩
  ·refine⟨_,rfl,zaa lD.x,hlt lD.x,cmo (zbV hD 5) ?_⟩;rintro e Z ⟨rfl,hZ,gZ⟩;exact bad 5 hR hZ gZ
 have h3:¬ (40:Int)<=(many:Int):=dF h3;rw [JZ (by omega)] at hR;clear bad r4 hD lD bD;obtain⟨st1,hs1⟩:=nm (nx s st);obtain⟨k,hkk⟩:=nm (zd8 st.tok.text);rw [show zcY (zaz s) st=st1 from hs1.symm,<- hkk,show st.lets=st1.lets by rw [hs1];rfl] at hR;rw [<- hkk] at hk4 ⊢;refine⟨_,zac (zaa lY.p) (i:=0) rfl,cmo (zdo hY) ?_⟩;rw [show nx s st=st1 from hs1.symm];rintro e Z ⟨rfl,hZ,gZ⟩;have lZ:=lY.grown (.inl rfl) hgw gZ;refine⟨(k:Int),zjZ (by omega),lZ.store hZ hgw (k':=k) (nq':=[]) (t':=zT) (q':=none) (cap':=0) (o:=0) (v:=u8n k) k5 rfl (by show 0+1<=5;decide) rfl rfl fun V hV lV _ _=>⟨Unit,fun _=>⟨[(2,At0 w.heap.size),(4,At0 (w.heap.size+1)),(6,At0 (w.heap.size+2))],[]⟩,fun _ Y=>ParB g l c s st1 Y/\LinB w g l c k [] zT none 0 Y,⟨(),(cvE rfl rfl),hV,lV⟩,?_⟩⟩;clear hV lV hZ lZ gZ hY lY sz0 h2 hz h1 hpos h;rintro _ Y ⟨hY,lY⟩;dsimp only;refine⟨Bool×Nat×Bs×Trm×Option Addr×Nat×PS,fun y=>⟨[(2,At0 w.heap.size),(4,At0 (w.heap.size+1)),(6,At0 (w.heap.size+2)),(8,.bool y.1)],[]⟩,fun y Y=>CutL g l c s w R y.1 y.2.1 y.2.2.1 y.2.2.2.1 y.2.2.2.2.1 y.2.2.2.2.2.1 y.2.2.2.2.2.2 Y,?_,?_⟩
 ·have hsz:w.heap.size+2<Y.heap.size:=hlt lY.x;have hpos:=hY.pos;refine⟨_,zac (zaa lY.x) (i:=0) rfl,biE (fun h4=>?_) fun h4=>?_⟩
  ·
   have h4:(k:Int)=0:=dT h4;obtain rfl:k=0:=by omega
   rw [Kc rfl] at hR;refine⟨_,zac (zaa lY.p) (i:=0) rfl,cmo (zlj hY lY.p) ?_⟩;rintro e Z ⟨rfl,hZ,gZ⟩;rcases hnm:zcm (zaz s) (fun t=>relB t||st1.lets t) st1 with ⟨on,st2⟩;rw [hnm] at hR hZ;dsimp only at hZ hR ⊢;have lZ:=lY.grown (.inl rfl) hgw gZ;refine lZ.store hZ hgw (k':=0) (nq':=on.getD []) (t':=zT) (q':=none) (cap':=0) (o:=1) (v:=strV (on.getD [])) k9 rfl (by show 1+1<=5;decide) rfl rfl fun V hV lV _ sV=>?_
   cases on with
   | none =>
    exact brF (brF ⟨(false,0,[],zT,none,0,st2),(cvE rfl rfl),hV,lV,fun h=>Kv h JU,fun _=>hR⟩)
   | some nq =>
    have hnl:=ziP hnm hpos;dsimp only at hR;refine brT ⟨_,zac (zaa lV.p) (i:=0) rfl,cmo (zdY hV 6 [61]) ?_⟩;rintro e U ⟨rfl,hU,gU⟩;rcases hex:zaR (zaz s) 6 [61] st2 with ⟨oe,st3⟩;rw [hex] at hR hU;dsimp only at hU hR ⊢;have lU:=lV.grown (.inl rfl) hgw gU
    cases oe with
    | false =>
     exact brF ⟨(false,0,nq,zT,none,0,st3),(cvE rfl rfl),hU,lU,fun h=>Kv h JU,fun _=>hR⟩
    | true =>
     dsimp only at hR;refine brT ?_;have su:w.heap.size+2<U.heap.size:=hlt lU.x;refine⟨_,zac (zaa lU.p) (i:=0) rfl,cmo (zj5 40000 1 st3 U (by decide) hU (by have:=hU.len;omega)) ?_⟩;rintro e T ⟨t,q,cap,rfl,hk,hT,gT⟩;rcases htm:termP (zaz s) 40000 1 st3 with ⟨ot,st4⟩;rw [htm] at hk hT hR;dsimp only at hk hT hR ⊢;have lT:=lU.grown (.inl rfl) hgw gT;refine lT.store hT hgw (k':=0) (nq':=nq) (t':=t) (q':=q) (cap':=cap) (o:=2) (v := .agg (zad t q cap).toArray) k24 rfl (by show 2+3<=5;decide) rfl rfl fun P hP lP oP sP=>DrawE.ord [6] [0,1,2,3,4,5,6] (by kernel_rfl) ?_;have bE:=(Ja P.heap.size P).drew;have hE:=hP.below bE;have lE:=lP.below bE;refine⟨_,zac (zaa lE.p) (i:=0) rfl,_,zac (zaa hE.f) (i:=4) rfl,_,zac (zaa lE.x) (i:=1) rfl,hE.setL nq fun N hN gN=>?_⟩;have lN:=lE.grown (.inr (.inl rfl)) (by omega) gN;refine⟨(ot.isSome,0,nq,t,q,cap,{ st4 with lets:=setP st4.lets nq }),(cvE rfl rfl),hN,lN,fun ho=>?_,fun ho=>?_⟩
     ·cases ot with
      | none=>cases ho
      | some t1 =>
       obtain⟨e1,e2,e3⟩:=hk t1 rfl;refine⟨by rw [hR,<- e1],Jh _,by show nq.length<=8192;omega,e2,?_⟩;have k1:KidsT (fun b=>U.heap.size<=b/\b<T.heap.size) T q t.kids:=e3.there;refine (k1.by fun b cs ty fr hb hc=>?_).weak fun b hb=>by omega
       have hlw:=(zbT hT.lm);rw [gN.block b (by have:=bE.size;omega) (by simp;omega),bE.block b (by omega),oP b (by omega)]
     ·cases ot with
      | none=>exact hR
      | some t1=>cases ho
  ·
   have h4:¬ (k:Int)=0:=dF h4;rw [JZ (by omega)] at hR;refine⟨_,zac (zaa lY.p) (i:=0) rfl,cmo (zj5 40000 1 st1 Y (by decide) hY (by have:=hY.len;omega)) ?_⟩;rintro e T ⟨t,q,cap,rfl,hk,hT,gT⟩;rcases htm:termP (zaz s) 40000 1 st1 with ⟨ot,st2⟩;rw [htm] at hk hT hR;dsimp only at hk hT hR ⊢;have lT:=lY.grown (.inl rfl) hgw gT;refine lT.store hT hgw (k':=k) (nq':=[]) (t':=t) (q':=q) (cap':=cap) (o:=2) (v := .agg (zad t q cap).toArray) k24 rfl (by show 2+3<=5;decide) rfl rfl fun P hP lP oP sP=>?_
   cases ot with
   | none =>
    exact brF (brF ⟨(false,k,[],t,q,cap,st2),(cvE rfl rfl),hP,lP,fun h=>Kv h JU,fun _=>hR⟩)
   | some t1 =>
    obtain⟨e1,e2,e3⟩:=hk t1 rfl;subst e1;have k1:KidsT (fun b=>Y.heap.size<=b/\b<T.heap.size) T q t1.kids:=e3.there;have sT:=gT.size;dsimp only at hR;refine brT ⟨_,zac (zaa lP.p) (i:=0) rfl,cmo (zdY hP 3 [97,115]) ?_⟩;rintro e U ⟨rfl,hU,gU⟩;rcases hex:zaR (zaz s) 3 [97,115] st2 with ⟨oe,st3⟩;rw [hex] at hR hU;dsimp only at hU hR ⊢;have lU:=lP.grown (.inl rfl) hgw gU
    cases oe with
    | false =>
     exact brF ⟨(false,k,[],t1,q,cap,st3),(cvE rfl rfl),hU,lU,fun h=>Kv h JU,fun _=>hR⟩
    | true =>
     dsimp only at hR;refine brT ?_;have hpu:=hU.pos;refine⟨_,zac (zaa lU.p) (i:=0) rfl,cmo (zli hU lU.p) ?_⟩;rintro e Z ⟨rfl,hZ,gZ⟩;rcases hnm:zcm (zaz s) st3.checks st3 with ⟨on,st4⟩;rw [hnm] at hR hZ;dsimp only at hZ hR ⊢;have lZ:=lU.grown (.inl rfl) hgw gZ;refine lZ.store hZ hgw (k':=k) (nq':=on.getD []) (t':=t1) (q':=q) (cap':=cap) (o:=1) (v:=strV (on.getD [])) k9 rfl (by show 1+1<=5;decide) rfl rfl fun V hV lV oV sV=>DrawE.ord [6] [0,1,2,3,4,5,6] (by kernel_rfl) ?_;have bE:=(Ja V.heap.size V).drew;have hE:=hV.below bE;have lE:=lV.below bE;refine⟨_,zac (zaa lE.p) (i:=0) rfl,_,zac (zaa hE.f) (i:=5) rfl,_,zac (zaa lE.x) (i:=1) rfl,hE.setC (on.getD []) fun N hN gN=>?_⟩;have lN:=lE.grown (.inr (.inr rfl)) (by omega) gN;refine⟨(on.isSome,k,on.getD [],t1,q,cap,{ st4 with checks:=setP st4.checks (on.getD []) }),(cvE rfl rfl),hN,lN,fun ho=>?_,fun ho=>?_⟩
     ·cases on with
      | none=>cases ho
      | some nq =>
       have hnl:=ziP hnm hpu;refine⟨by rw [hR];rfl,by show k<=3;omega,by show nq.length<=8192;omega,e2,?_⟩;refine (k1.by fun b cs ty fr hb hc=>?_).weak fun b hb=>by omega
       have hcw:=(zbT hT.cm);have sU:=gU.size;have sZ:=gZ.size;rw [gN.block b (by have:=bE.size;omega) (by simp;omega),bE.block b (by omega),oV b (by omega),gZ.block b (by omega) (by simp;omega),gU.block b (by omega) (by simp;omega),oP b (by omega)]
     ·cases on with
      | none=>exact hR
      | some nq=>cases ho
 clear hY lY hR hkk hk4 h3 hl4 hs1;rintro⟨ok,k,nq,t,q,cap,st2⟩ Y ⟨hY,lY,hok,hno⟩;dsimp only at hY lY hok hno ⊢;have done:∀ {ok2:Bool} {st3:PS} {Z:World},ParB g l c s st3 Z->LinB w g l c k nq t q cap Z->R.1.isSome=ok2->R.2=st3->(∀ x,R.1=some x->x=⟨k,nq,t⟩/\k<=3/\nq.length<=8192/\t.name.length<=8192/\KidsT (fun b=>w.heap.size+2<b) Z q t.kids) ->
   ∃ us:List Value,us.length=5/\zav Z ⟨w.heap.size+2,0,none⟩ us/\w.heap.size+2<Z.heap.size/\SatR ((storeVar 49 ⟨w.heap.size+1,0,none⟩ (.agg us.toArray)).run Tryz.prog Z) fun _ w'=>∃ us:List Value,us.length=5/\zav w' ⟨w.heap.size+1,0,none⟩ us/\LinR g l c s w R (.returned (zcp [.agg us.toArray,.bool ok2])) w':=by
  intro ok2 st3 Z hZ lZ e1 e2 e3;exact⟨_,rfl,zaa lZ.x,hlt lZ.x,lZ.fin hZ hgw e1 e2 e3⟩
 cases ok with
 | false =>
  have hR:=hno rfl;exact brF (brF (brF (done hY lY (by rw [hR];rfl) (by rw [hR]) (fun x hx=>by rw [hR] at hx;cases hx))))
 | true =>
  obtain⟨hR,hk3,hn,htn,hkd⟩:=hok rfl;unfold endP at hR;refine brT ⟨_,zac (zaa lY.p) (i:=0) rfl,_,zac (zaa hY.f) (i:=1) rfl,?_⟩;have good:¬ (st2.tok.kind≠2/\st2.tok.kind≠1)->∃ us:List Value,us.length=5/\zav Y ⟨w.heap.size+2,0,none⟩ us/\w.heap.size+2<Y.heap.size/\SatR ((storeVar 49 ⟨w.heap.size+1,0,none⟩ (.agg us.toArray)).run Tryz.prog Y) fun _ w'=>∃ us:List Value,us.length=5/\zav w' ⟨w.heap.size+1,0,none⟩ us/\LinR g l c s w R (.returned (zcp [.agg us.toArray,.bool true])) w':=fun hc=>by
   rw [JZ hc] at hR;exact done hY lY (by rw [hR];rfl) (by rw [hR]) (fun x hx=>by rw [hR] at hx;exact⟨(Jg hx).symm,hk3,hn,htn,hkd⟩)
  refine biE (fun h1=>?_) fun h1=>?_
  ·have h1:(!decide ((st2.tok.kind:Int)=((2:Nat):Int)))=true:=h1;rw [zaF] at h1;have h1:st2.tok.kind≠2:=by simpa using h1
   refine⟨_,zac (zaa lY.p) (i:=0) rfl,_,zac (zaa hY.f) (i:=1) rfl,biE (fun h2=>?_) fun h2=>?_⟩
   ·have h2:(!decide ((st2.tok.kind:Int)=((1:Nat):Int)))=true:=h2;rw [zaF] at h2;have h2:st2.tok.kind≠1:=(by simpa using h2);rw [Kc ⟨h1,h2⟩] at hR;refine⟨_,zac (zaa lY.p) (i:=0) rfl,cmo (zbV hY 110) ?_⟩;rintro e Z ⟨rfl,hZ,gZ⟩;exact done hZ (lY.grown (.inl rfl) hgw gZ) (by rw [hR];rfl) (by rw [hR]) (fun x hx=>by rw [hR] at hx;cases hx)
   ·have h2:(!decide ((st2.tok.kind:Int)=((1:Nat):Int)))=false:=h2;rw [zaF] at h2;have h2:st2.tok.kind=1:=(by simpa using h2);exact good fun h=>h.2 h2
  ·have h1:(!decide ((st2.tok.kind:Int)=((2:Nat):Int)))=false:=h1;rw [zaF] at h1;have h1:st2.tok.kind=2:=by simpa using h1
   exact brF (good fun h=>h.1 h1)
end
abbrev LinX:=LineD×Option Addr×Nat
def linE:Enc LinX:=⟨fun x=>zas x.1.kind x.1.name x.1.term x.2.1 x.2.2,5,fun _=>rfl,by decide,fun a u hu=>by
 simp only [zas,zad,JV,List.not_mem_nil,or_false] at hu;rcases hu with rfl | rfl | rfl | rfl | rfl <;> rfl⟩
def LinK (Q:Nat->Prop) (w:World) (rows:List LinX):Prop:=∀ x∈rows,x.1.kind<=255/\x.1.name.length<=140737488351232/\x.1.term.name.length<=140737488351232/\KidsT Q w x.2.1 x.1.term.kids
def LinsM (Q:Nat->Prop) (w:World) (p:Option Addr) (ls:List LineD):Prop:=∃ rows:List LinX,rows.map (·.1)=ls/\SlR linE w p rows/\LinK Q w rows/\(rows≠[]->∀ a,p=some a->Q a.block)
def ParR (r:Option (List LineD)×Nat×Int) (w:World) (e:Ending) (w':World):Prop :=
 (∃ (p:Option Addr) (cap:Nat),e = .returned (.tuple #[.agg #[.slice p (r.1.getD []).length cap],i64 (r.2.1:Nat),i64 r.2.2])/\(r.1.getD []).length<=40/\LinsM (fun b=>w.heap.size<=b) w' p (r.1.getD []))/\Bw w w'
section
variable {g l c B:Nat} {s:Bs} {st:PS} {w w2 w3 X:World}
theorem Oth.low (h:Oth g l c w w2) (h1:B<=g) (h2:B<=l) (h3:B<=c) (h4:B<=w.heap.size):Below B w w2:=⟨h.os,h.tape,h.output,h.size,fun j hj=>h.block j (by omega) (by omega) (by omega) (by omega)⟩
theorem LinK.by {Q:Nat->Prop} {rows:List LinX} (hs:∀ (g:Nat) (cs:Array Value) (t:TypeId) (fr:Nat×Nat),Q g->w.heap[g]?=some (.cells cs t fr)->w2.heap[g]?=w.heap[g]?) (h:LinK Q w rows):LinK Q w2 rows :=
 fun x hx=>⟨(h x hx).1,(h x hx).2.1,(h x hx).2.2.1,(h x hx).2.2.2.by hs⟩
theorem LinK.weak {Q Q':Nat->Prop} {rows:List LinX} (h:LinK Q w rows) (hb:∀ b,Q b->Q' b):LinK Q' w rows :=
 fun x hx=>⟨(h x hx).1,(h x hx).2.1,(h x hx).2.2.1,(h x hx).2.2.2.weak hb⟩
theorem LinK.there {Q:Nat->Prop} {rows:List LinX} (h:LinK Q w rows):LinK (fun b=>Q b/\b<w.heap.size) w rows :=
 fun x hx=>⟨(h x hx).1,(h x hx).2.1,(h x hx).2.2.1,(h x hx).2.2.2.there⟩
theorem LinsM.by {Q:Nat->Prop} {p:Option Addr} {ls:List LineD} (hs:∀ (g:Nat) (cs:Array Value) (t:TypeId) (fr:Nat×Nat),Q g->w.heap[g]?=some (.cells cs t fr)->w2.heap[g]?=w.heap[g]?) (h:LinsM Q w p ls):LinsM Q w2 p ls:=by
 obtain⟨rows,e1,e2,e3,e4⟩:=h;refine⟨rows,e1,?_,e3.by hs,e4⟩;rcases e2 with e2 | ⟨b,o,hp,hb,hc⟩
 ·exact .inl e2
 ·by_cases h0:rows=[]
  ·exact .inl h0
  ·have hl:0<rows.length:=List.length_pos_iff.2 h0;have hq:=e4 h0 _ hp;have h1:=hc 0 hl 0 _ rfl;unfold World.cell? at h1
   split at h1
   ·rename_i cs t fr hblk;have hblk:w.heap[b]?=some (.cells cs t fr):=hblk;have sm:=hs b cs t fr hq hblk;exact .inr ⟨b,o,hp,hlt (sm.trans hblk),fun i hi=>zaB sm (hc i hi)⟩
   ·cases h1
theorem LinsM.weak {Q Q':Nat->Prop} {p:Option Addr} {ls:List LineD} (h:LinsM Q w p ls) (hb:∀ b,Q b->Q' b):LinsM Q' w p ls:=by
 obtain⟨rows,e1,e2,e3,e4⟩:=h;exact⟨rows,e1,e2,e3.weak hb,fun h0 a ha=>hb _ (e4 h0 a ha)⟩
theorem LinsM.below {Q:Nat->Prop} {p:Option Addr} {ls:List LineD} (h:LinsM Q w p ls) (b:Bw w w2):LinsM Q w2 p ls:=h.by fun g cs t fr _ hc=>b.block g (hlt hc)
theorem LinsM.all {Q:Nat->Prop} {p:Option Addr} {ls:List LineD} (h:LinsM Q w p ls):LinsM (fun _=>True) w p ls:=h.weak fun _ _=>trivial
theorem LinK.nil {Q:Nat->Prop}:LinK Q w []:=fun x hx=>by cases hx
theorem LinK.snoc {Q:Nat->Prop} {rows:List LinX} {x:LinX} (h:LinK Q w rows) (hx:LinK Q w [x]):LinK Q w (rows++[x]):=fun y hy=>by
 rcases JM.1 hy with hy | hy
 ·exact h y hy
 ·exact hx y hy
theorem znT (hg:GlobK w) (s:Bs) (hs:s.length<=140737488351232):Calls Tryz.prog 27 #[strV s] w (ParR (zbe s) w):=by
 refine cofM 61 [strV s] (.c .p (.s .p (.s .p (.c .p .p)))) Tryz.func27 ?_;obtain⟨R,hR⟩:=nm (zbe s);rw [<- hR];unfold zbe at hR;have hgl:=hg.lt;refine⟨Unit,fun _=>⟨[(0,strV s),(2,At0 w.heap.size)],[]⟩,fun _ X=>X.heap[w.heap.size]?=some (.cells #[.slice none 0 0] 47 (0,0))/\Bw w X/\X.heap.size=w.heap.size+1,⟨(),(cvE rfl rfl),hnew w _,zba _ _,wz _ _⟩,?_⟩;rintro _ W1 ⟨f1,b1,n1⟩;refine biE (fun h1=>?_) fun h1=>?_
 ·have h1:(8192:Int)<(s.length:Int):=dT h1;rw [Kc (by omega)] at hR;exact⟨[.slice none 0 0],rfl,zao (v := .agg #[.slice none 0 0]) k47 f1 rfl rfl rfl ⟨[.slice none 0 0],rfl,zaa (zal f1),⟨none,0,by rw [hR];rfl,by rw [hR];exact Jh _,[],by rw [hR];rfl,.nil,.nil,fun h=>Kv rfl h⟩,zah b1 (Jb _) _⟩⟩
 have h1:¬ (8192:Int)<(s.length:Int):=dF h1;have hlen:s.length<=8192:=by omega
 rw [JZ (by omega)] at hR;refine⟨Unit,fun _=>⟨[(2,At0 w.heap.size),(5,At0 (w.heap.size+1)),(6,At0 (w.heap.size+4))],[]⟩,fun _ Y=>ParB (w.heap.size+4) (w.heap.size+2) (w.heap.size+3) s ⟨⟨0,[],0⟩,fun _=>false,fun _=>false,0,0,0⟩ Y/\Y.heap[w.heap.size]?=some (.cells #[.slice none 0 0] 47 (0,0))/\Y.heap[w.heap.size+1]?=some (.cells #[.slice none 0 0] 47 (0,0))/\Bw w Y,?_,?_⟩
 ·obtain⟨W2,e2⟩:=nm (W1.alloc (.cells #[.slice none 0 0] 47));have n2:W2.heap.size=w.heap.size+2:=by rw [e2,wz,n1]
  have f2:W2.heap[w.heap.size+1]?=some (.cells #[.slice none 0 0] 47 (0,0)):=by rw [e2,<- n1];exact hnew W1 _
  have b2:Bw W1 W2:=by rw [e2];exact zba _ _
  rw [<- e2,<- n1];refine⟨Value.map (some W2.heap.size),W2.alloc (.map #[] 0),rfl,?_⟩;have m3:MapF (key:=keyS) (W2.alloc (.map #[] 0)) W2.heap.size (fun (_:Bs)=>none):=MapF.new;obtain⟨W3,e3⟩:=nm (W2.alloc (.map #[] 0));have n3:W3.heap.size=w.heap.size+3:=by rw [e3,wz,n2]
  have b3:Bw W2 W3:=by rw [e3];exact zba _ _
  rw [<- e3] at m3 ⊢;refine⟨Value.map (some W3.heap.size),W3.alloc (.map #[] 0),rfl,?_⟩;have m4:MapF (key:=keyS) (W3.alloc (.map #[] 0)) W3.heap.size (fun (_:Bs)=>none):=MapF.new;obtain⟨W4,e4⟩:=nm (W3.alloc (.map #[] 0));have n4:W4.heap.size=w.heap.size+4:=by rw [e4,wz,n3]
  have b4:Bw W3 W4:=by rw [e4];exact zba _ _
  rw [<- e4] at m4 ⊢;refine⟨zdm s W2.heap.size W3.heap.size ⟨⟨0,[],0⟩,fun _=>false,fun _=>false,0,0,0⟩,rfl,?_⟩;have f5:=hnew W4 (.cells (zdm s W2.heap.size W3.heap.size ⟨⟨0,[],0⟩,fun _=>false,fun _=>false,0,0,0⟩).toArray 136);have b5:=zba W4 (.cells (zdm s W2.heap.size W3.heap.size ⟨⟨0,[],0⟩,fun _=>false,fun _=>false,0,0,0⟩).toArray 136);refine⟨(),⟨.cons rfl (.cons rfl (.cons ?_ .nil)),rfl⟩,?_⟩
  ·show some (At0 W4.heap.size)=_;rw [n4]
  rw [n2,n3] at f5 b5;show _/\_;rw [n2,n3];rw [n4] at f5;have bAll:=zst b1 (zst b2 (zst b3 (zst b4 b5)));have em:(fun (_:Bs)=>(none:Option Value))=mapB (fun _=>false):=rfl;rw [em,n2] at m3;rw [em,n3] at m4;refine⟨⟨f5,?_,?_,⟨by omega,by omega,by omega⟩,hg.below bAll,hlen,Jh _,Jh _,Jh _⟩,?_,?_,bAll⟩
  ·exact (m3.below b4).below b5
  ·exact m4.below b5
  ·exact zab b5 (zab b4 (zab b3 (zab b2 f1)))
  ·rw [<- n1] at f2;exact zab b5 (zab b4 (zab b3 f2))
 clear f1 b1 n1 W1;rintro _ Y ⟨hY,fr,fc,bY⟩;dsimp only;refine cmo (zdo hY) ?_;have es:nx s ⟨⟨0,[],0⟩,fun _=>false,fun _=>false,0,0,0⟩=zj6 s:=rfl;rw [es];rintro e Z ⟨rfl,hZ,gZ⟩;have frZ:=(gZ.block _ (hlt fr) (by simp)).trans fr;have fcZ:=(gZ.block _ (hlt fc) (by simp)).trans fc;have bZ:Bw w Z:=bY.trans (zan gZ bY.size (by omega));refine⟨List LinX×Option Addr×Nat×PS×Nat,fun y=>⟨[(2,At0 w.heap.size),(5,At0 (w.heap.size+1)),(6,At0 (w.heap.size+4))],[]⟩,
  fun y Y=>ParB (w.heap.size+4) (w.heap.size+2) (w.heap.size+3) s y.2.2.2.1 Y/\Y.heap[w.heap.size]?=some (.cells #[.slice none 0 0] 47 (0,0))/\Y.heap[w.heap.size+1]?=some (.cells #[.slice y.2.1 y.1.length y.2.2.1] 47 (0,0))/\Bw w Y /\
   OwnS linE 49 (w.heap.size+5) Y y.2.1 y.2.2.1 y.1/\LinK (fun b=>w.heap.size+4<b/\∀ a,y.2.1=some a->a.block≠b) Y y.1/\y.1.length<=40/\(∃ i,y.2.2.2.1.tok=zaz s i) /\
   R=ziT (zaz s) 40000 y.2.2.2.2 (y.1.map (·.1)) y.2.2.2.1/\s.length-y.2.2.2.1.tok.at_+1<=y.2.2.2.2,
  fun y=>y.2.2.2.2,([],none,0,zj6 s,10000),(cvE rfl rfl),?_,?_⟩
 ·exact⟨hZ,frZ,fcZ,bZ,.nil,.nil,Jh _,⟨0,rfl⟩,hR,by show s.length-(zj6 s).tok.at_+1<=10000;omega⟩
 clear hZ frZ fcZ bZ gZ hY fr fc bY es hR Z Y;rintro⟨rows,p,cap,st,n⟩ Y ⟨hY,fr,fc,bY,ho,hk,h40,⟨i,hi⟩,hR,hn⟩;dsimp only at hY fc ho hk h40 hi hR hn ⊢;obtain⟨n',rfl⟩:∃ n',n=n'+1:=⟨n-1,by omega⟩;rw [ziT] at hR;have sY:w.heap.size+4<Y.heap.size:=hY.lt;have hps:=hY.pos;refine⟨_,zac (zaa hY.f) (i:=1) rfl,biE (fun h2=>?_) fun h2=>?_⟩
 ·have h2:(!decide ((st.tok.kind:Int)=((1:Nat):Int)))=true:=h2;rw [zaF] at h2;have h2:st.tok.kind≠1:=by simpa using h2
  rw [JZ h2] at hR;refine⟨_,zac (zaa hY.f) (i:=1) rfl,biE (fun h3=>?_) fun h3=>?_⟩
  ·
   have h3:st.tok.kind=2:=dT ((zaF (b:=2)).symm.trans h3);rw [Kc h3] at hR;have ht:1<=st.tok.text.length:=by rw [hi] at h3 ⊢;exact zl6 h3
   refine cmo (zdo hY) ?_;rintro e Z ⟨rfl,hZ,gZ⟩;have hx:=zmH s st;refine⟨(rows,p,cap,nx s st,n'),(cvE rfl rfl),⟨hZ,(gZ.block _ (hlt fr) (by simp)).trans fr,(gZ.block _ (hlt fc) (by simp)).trans fc,bY.trans (zan gZ bY.size (by omega)),?_,?_,h40,⟨_,rfl⟩,hR,?_⟩,Kg _⟩
   ·exact ho.kept gZ fun gg hg e=>by have h5:w.heap.size+5<=gg:=(zau ho hg).1;simp at e;omega
   ·exact (hk.there.by fun b cs ty fr hb hc=>gZ.block b hb.2 (by simp;omega)).weak fun b hb=>hb.1
   ·have:(nx s st).tok.at_=(zcY (zaz s) st).tok.at_:=rfl;dsimp only;omega
  ·
   have h3:st.tok.kind≠2:=dF ((zaF (b:=2)).symm.trans h3);rw [JZ h3] at hR;refine⟨_,zac (zaa fc) (i:=0) rfl,cmo (zqC rows.length hY) ?_⟩;rintro e Z ⟨k,nq,t,q,cp,rfl,hl,hZ,oZ⟩;have hm:=zqu (s:=s) 40000 rows.length st;have hon:∀ (x:LineD) (st2:PS),zem (zaz s) 40000 rows.length st=(some x,st2)->st.tok.at_+1<=st2.tok.at_:=fun x st2=>zqB;have hmy:∀ (x:LineD) (st2:PS),zem (zaz s) 40000 rows.length st=(some x,st2)->rows.length<40:=fun x st2=>zmT;rw [Jc] at hR;rcases hln:zem (zaz s) 40000 rows.length st with ⟨r1,st2⟩;rw [hln] at hl hZ hm hR hon hmy;dsimp only at hl hZ hm hR hon hmy ⊢;have bZ:Bw w Z:=bY.trans (oZ.low (by omega) (by omega) (by omega) (by omega));have keep:∀ {j:Nat} {o:Obj},Y.heap[j]?=some o->j≠w.heap.size+4->j≠w.heap.size+2->j≠w.heap.size+3->Z.heap[j]?=some o:=fun {j o} h h1 h2 h3=>(oZ.block j (hlt h) h1 h2 h3).trans h;have frZ:=keep fr (by omega) (by omega) (by omega);have fcZ:=keep fc (by omega) (by omega) (by omega);have sZ:=oZ.size;refine zak (X:=Z) (v := .agg (zas k nq t q cp).toArray) k49 rfl rfl rfl fun U hbU fU sU=>?_;have hU:=hZ.below hbU;have bU:=zst bZ hbU;have frU:=zab hbU frZ;have fcU:=zab hbU fcZ
   cases r1 with
   | none =>
    refine brT ?_;have bE:=(Ja U.heap.size U).drew;have hE:=hU.below bE;have fE:=zab bE frU;have hE2:(U.drew.setRow w.heap.size #[.slice none 0 0]).heap[w.heap.size+4]?=some (.cells (zdm s (w.heap.size+2) (w.heap.size+3) st2).toArray 136 (0,0)):=(zam (by omega)).trans hE.f;have done:∃ us:List Value,us.length=1/\zav (U.drew.setRow w.heap.size #[.slice none 0 0]) ⟨w.heap.size,0,none⟩ us/\ParR R w (.returned (zcp [.agg us.toArray,i64 (st2.tok.at_:Nat),i64 st2.e])) (U.drew.setRow w.heap.size #[.slice none 0 0]) :=
     ⟨[.slice none 0 0],rfl,zaa (zal fE),⟨none,0,by rw [hR];rfl,by rw [hR];exact Jh _,[],by rw [hR];rfl,.nil,.nil,fun h=>Kv rfl h⟩,zah ((zst bU bE)) (Jb _) _⟩
    refine DrawE.treeR [10] (.op 0 (.op 1 (.op 2 (.op 3 (.op 4 (.op 6 (.op 7 (.op 8 (.alt (.op 10 (.alt (.op 5 (.op 9 (.op 11 (.op 12 (.nil))))) (.op 9 (.op 5 (.op 11 (.op 12 (.nil))))))) (.alt (.op 5 (.alt (.op 10 (.op 9 (.op 11 (.op 12 (.nil))))) (.op 9 (.op 10 (.op 11 (.op 12 (.nil))))))) (.op 9 (.alt (.op 10 (.op 5 (.op 11 (.op 12 (.nil))))) (.op 5 (.op 10 (.op 11 (.op 12 (.nil))))))))))))))))) (by kernel_rfl) ⟨[.slice none 0 0],rfl,Jn ?_ (Jn ?_ ?_)⟩
    ·refine zao (v := .agg #[.slice none 0 0]) k47 fE rfl rfl rfl (Jn ?_ ?_)
     ·exact⟨_,zac (zaa hE2) (i:=3) rfl,_,zac (zaa hE2) (i:=8) rfl,done⟩
     ·exact⟨_,zac (zaa hE2) (i:=8) rfl,_,zac (zaa hE2) (i:=3) rfl,done⟩
    ·refine⟨_,zac (zaa hE.f) (i:=3) rfl,Jn ?_ ?_⟩
     ·exact zao (v := .agg #[.slice none 0 0]) k47 fE rfl rfl rfl ⟨_,zac (zaa hE2) (i:=8) rfl,done⟩
     ·exact⟨_,zac (zaa hE.f) (i:=8) rfl,zao (v := .agg #[.slice none 0 0]) k47 fE rfl rfl rfl done⟩
    ·refine⟨_,zac (zaa hE.f) (i:=8) rfl,Jn ?_ ?_⟩
     ·exact zao (v := .agg #[.slice none 0 0]) k47 fE rfl rfl rfl ⟨_,zac (zaa hE2) (i:=3) rfl,done⟩
     ·exact⟨_,zac (zaa hE.f) (i:=3) rfl,zao (v := .agg #[.slice none 0 0]) k47 fE rfl rfl rfl done⟩
   | some x =>
    obtain⟨rfl,hk3,hnl,htl,hkd⟩:=hl x rfl;refine brF ⟨_,zac (zaa fcU) (i:=0) rfl,_,rfl,zaa fU,hlt fU,⟨by decide,by decide,rfl⟩,zas k nq t q cp,rfl,?_⟩;obtain⟨V,hV⟩:=nm (U.alloc (.cells (zas k nq t q cp).toArray 49));have hbV:Bw U V:=(by rw [hV];exact zba _ _);have sV:V.heap.size=U.heap.size+1:=(by rw [hV];exact wz _ _);have cV:zav V ⟨U.heap.size,0,none⟩ ([((⟨k,nq,t⟩,q,cp):LinX)].flatMap linE.enc):=(by rw [hV];exact za2 linE ((⟨k,nq,t⟩,q,cp):LinX));have bV:=zst bU hbV;have hVp:=hU.below hbV;have hoV:OwnS linE 49 (w.heap.size+5) V p cap rows:=((ho.same fun a ha=>oZ.block a.block (zau ho ha).2.1 (by have:=(zau ho ha).1;omega) (by have:=(zau ho ha).1;omega) (by have:=(zau ho ha).1;omega)).below hbU).below hbV;rw [<- hV];refine zbp (E:=linE) (news:=[((⟨k,nq,t⟩,q,cp):LinX)]) (m:=1) Tryz.underlying45 k49 rfl rfl rfl hoV rfl cV (by omega) (by omega) (by show (rows.length+1)*72<=140737488355328;omega) fun p2 c2 T hoT gT bT hat=>?_;have ownb:∀ {j:Nat},j<w.heap.size+5->(Value.slice p rows.length cap).ownBlock≠some j:=fun {j} hj e=>by
     have:=(World.ownsRow.lt hoV j e).1;omega
    have tk:∀ {j:Nat} {o:Obj},V.heap[j]?=some o->j<w.heap.size+5->T.heap[j]?=some o:=fun {j o} h hj=>(gT.block j (hlt h) (ownb hj).symm).trans h;have hT:ParB (w.heap.size+4) (w.heap.size+2) (w.heap.size+3) s st2 T:=hVp.upto ⟨bT.os,bT.tape,bT.output,bT.size,fun j hj=>gT.block j (by omega) (ownb (by omega)).symm⟩;have fcT:=tk (zab hbV fcU) (by omega);have frT:=tk (zab hbV frU) (by omega);refine zao (v := .slice p2 (rows++[((⟨k,nq,t⟩,q,cp):LinX)]).length c2) k45 fcT rfl rfl rfl ?_;have bS:=zah (B:=w.heap.size) (Ja _ T) (Nat.le_succ w.heap.size) (Value.slice p2 (rows++[((⟨k,nq,t⟩,q,cp):LinX)]).length c2).cells;refine⟨(rows++[((⟨k,nq,t⟩,q,cp):LinX)],p2,c2,st2,n'),(cvE rfl rfl),⟨?_,(zam (by omega)).trans frT,zal fcT,(bV.trans (bT.mono (by omega))).trans bS,?_,?_,?_,?_,?_,?_⟩,Kg _⟩
    ·
     have og:=hT.ord;have hgT:=hT.glob;have sm:∀ {j},j≠w.heap.size+1->(T.setRow (w.heap.size+1) (Value.slice p2 (rows++[((⟨k,nq,t⟩,q,cp):LinX)]).length c2).cells).heap[j]?=T.heap[j]?:=fun {j} hj=>zam hj;exact⟨(sm (by omega)).trans hT.f,hT.lm.same (sm (by omega)),hT.cm.same (sm (by omega)),og,hgT.grown (g:=w.heap.size+1) (by omega) (zaL T _ _),hT.len,hT.pos,hT.nod,hT.dep⟩
    ·refine hoT.kept (zaL T (w.heap.size+1) _) fun gg hg e=>?_;have h5:w.heap.size+5<=gg:=(zau hoT hg).1;simp at e;omega
    ·have other:∀ {b:Nat} {cs:Array Value} {ty:TypeId} {fr:Nat×Nat},w.heap.size+4<b->(∀ a,p=some a->a.block≠b)->b<Z.heap.size->(T.setRow (w.heap.size+1) (Value.slice p2 (rows++[((⟨k,nq,t⟩,q,cp):LinX)]).length c2).cells).heap[b]?=Z.heap[b]?/\∀ a,p2=some a->a.block≠b:=by
      intro b cs ty fr h1 h2 h3;refine⟨?_,fun a ha=>?_⟩
      ·rw [zam (by omega),gT.block b (by omega) ?_,hbV.block b (by omega),hbU.block b h3];intro e;rcases p with _ | a
       ·simp [Value.ownBlock] at e
       ·rcases hoV.inv with ⟨h0,_⟩ | ⟨gg,_,h0,_⟩
        ·cases h0
        ·cases h0
         simp [Value.ownBlock] at e;exact h2 _ rfl e.symm
      ·rcases hat a ha with h4 | h4
       ·exact h2 a h4
       ·omega
     refine LinK.snoc ?_ ?_
     ·have k1:LinK (fun b=>(w.heap.size+4<b/\∀ a,p=some a->a.block≠b)/\b<Y.heap.size) Y rows:=hk.there;have k2:LinK (fun b=>(w.heap.size+4<b/\∀ a,p=some a->a.block≠b)/\b<Y.heap.size) Z rows:=k1.by fun b cs ty fr hb hc=>oZ.block b hb.2 (by omega) (by omega) (by omega)
      refine (k2.by fun b cs ty fr hb hc=>(other (cs:=cs) (ty:=ty) (fr:=fr) hb.1.1 hb.1.2 (by omega)).1).weak fun b hb=>⟨hb.1.1,(other (cs := #[]) (ty:=0) (fr:=(0,0)) hb.1.1 hb.1.2 (by omega)).2⟩
     ·intro x hx;obtain rfl:=Jl.1 hx;have pl:∀ {b:Nat},Y.heap.size<=b->∀ a,p=some a->a.block≠b:=fun {b} hb a ha e=>by have:=(zau ho ha).2.1;omega
      have k1:KidsT (fun b=>Y.heap.size<=b/\b<Z.heap.size) Z q t.kids:=hkd.there;refine⟨by show k<=255;omega,by show nq.length<=_;omega,by show t.name.length<=_;omega,?_⟩;exact (k1.by fun b cs ty fr hb hc=>(other (cs:=cs) (ty:=ty) (fr:=fr) (by omega) (pl hb.1) hb.2).1).weak fun b hb=>⟨by omega,(other (cs := #[]) (ty:=0) (fr:=(0,0)) (by omega) (pl hb.1) hb.2).2⟩
    ·dsimp only;rw [lap];have hlt:=hmy _ _ rfl;show rows.length+1<=40;omega
    ·rcases hm.2.2 with e | e
     ·exact⟨i,e.trans hi⟩
     ·exact e
    ·dsimp only;rw [hR,Jw];rfl
    ·have:=hon _ _ rfl;have hp2:=hZ.pos;dsimp only;omega
 ·have h2:(!decide ((st.tok.kind:Int)=((1:Nat):Int)))=false:=h2;rw [zaF] at h2;have h2:st.tok.kind=1:=by simpa using h2
  rw [Kc h2] at hR;refine⟨_,rfl,zaa fc,hlt fc,zao (v := .agg #[.slice p rows.length cap]) k47 fr rfl rfl rfl ?_⟩;have ok2:OwnS linE 49 (w.heap.size+5) (Y.setRow w.heap.size (Value.agg #[.slice p rows.length cap]).cells) p cap rows:=ho.kept (zaL Y w.heap.size _) fun gg hg e=>by
   have h5:w.heap.size+5<=gg:=(zau ho hg).1;simp at e;omega
  refine⟨[.slice p rows.length cap],rfl,zaa (zal fr),⟨p,cap,by rw [hR];show _=Ending.returned (.tuple #[.agg #[.slice p (rows.map (·.1)).length cap],i64 0,i64 0]);rw [Jc];rfl,by rw [hR];show (rows.map (·.1)).length<=40;rw [Jc];exact h40,rows,by rw [hR];rfl,ok2.row,?_,fun _ a ha=>by have:=(zau ok2 ha).1;omega⟩,zah bY (Jb _) _⟩;exact (hk.by fun b cs ty fr hb hc=>zam (by omega)).weak fun b hb=>by omega
end
end Go.Proofs.YtnadlhpkpnfmbaaGreatDoor
namespace Go.Proofs.YtnadlhpkpnfmbaaGreatDoor
open Go.Vc
mutual
def nodesT:Trm->Nat
 | .mk _ _ l=>1+nodesK l
def nodesK:List Trm->Nat
 | []=>0
 | t::r=>nodesT t+nodesK r
end
inductive VT:Trm->Prop
 | mk (k:UInt8) (nq:Bs) (kids:List Trm) (hk:k.toNat<10) (hl:(kids.length:Int)=zb7 k.toNat) (hn:nq.length<=16) (hv:∀ x∈kids,VT x):VT (.mk k nq kids)
theorem VT.inv {k:UInt8} {nq:Bs} {kids:List Trm} (h:VT (.mk k nq kids)):k.toNat<10/\(kids.length:Int)=zb7 k.toNat/\nq.length<=16/\∀ x∈kids,VT x:=by
 cases h with
 | mk _ _ _ h1 h2 h3 h4=>exact⟨h1,h2,h3,h4⟩
theorem zot {s:Bs} (h:relB s=true):s.length<=16:=by
 unfold relB at h;rw [JK] at h;obtain⟨w,hw,he⟩:=h;have he:=dT he;subst he
 revert hw
 have:∀ w∈[[112,111],[114,102],[99,111],[102,114],[114,109,119],[100,97,116,97],[99,116,114,108],[108,111,99],[105,100],[101,120,116],[105,110,116]],(w:Bs).length<=16:=by decide
 exact this _
theorem zoi {s:Bs} (h:setB s=true):s.length<=16:=by
 unfold setB at h;rw [JK] at h;obtain⟨w,hw,he⟩:=h;have he:=dT he;subst he
 revert hw
 have:∀ w∈[[82],[87],[70],[77],[65],[76],[88],[70,70],[70,76],[70,83],[73]],(w:Bs).length<=16:=by decide
 exact this _
theorem zfL (lets:Bs->Bool) (n:Nat):∀ t,n<=(chkT lets n t).2/\((chkT lets n t).1=true->(chkT lets n t).2<=400):=fun t=>by
 cases t with
 | mk k nq kids=>exact go n k nq kids
where
 go (n:Nat) (k:UInt8) (nq:Bs):∀ kids,n<=(chkT lets n (.mk k nq kids)).2/\((chkT lets n (.mk k nq kids)).1=true->(chkT lets n (.mk k nq kids)).2<=400):=fun kids=>by
  rw [chkT]
  split
  ·exact⟨by show n<=n+1;omega,fun h=>by cases h⟩
  ·split
   ·exact⟨by show n<=n+1;omega,fun _=>by show n+1<=400;omega⟩
   ·split
    ·exact⟨by show n<=n+1;omega,fun _=>by show n+1<=400;omega⟩
    ·split
     ·exact⟨by show n<=n+1;omega,fun h=>by cases h⟩
     ·have:=goL (n+1) kids (by omega);exact⟨by omega,this.2⟩
 goL (n:Nat):∀ kids,n<=400->n<=(chkL lets n kids).2/\((chkL lets n kids).1=true->(chkL lets n kids).2<=400)
  | [],h=>by rw [chkL];exact⟨Jb _,fun _=>h⟩
  | .mk k nq l::r,h=>by
   rw [chkL];have:=go n k nq l
   split <;> rename_i n2 e <;> rw [e] at this
   ·exact⟨this.1,fun h=>by cases h⟩
   ·have h2:=goL n2 r (this.2 rfl);have h3:=this.1;exact⟨by dsimp only at h3;omega,h2.2⟩
theorem zeN (lets:Bs->Bool) (hl:∀ s,lets s=true->s.length<=16):∀ t n n',chkT lets n t=(true,n')->VT t/\n'=n+nodesT t
 | .mk k nq kids,n,n',h=>by
  rw [chkT] at h
  split at h
  ·cases h
  ·rename_i hc;have h1:k.toNat<10:=by
    refine Classical.byContradiction fun hn=>hc (.inr (.inl (by omega)))
   have h2:(kids.length:Int)=zb7 k.toNat:=by
    refine Classical.byContradiction fun hn=>hc (.inr (.inr hn))
   split at h
   ·rename_i hk;have hk0:kids=[]:=by
     rw [hk] at h2;have:(kids.length:Int)=0:=h2;exact JS (by omega)
    subst hk0;have h:=Prod.mk.inj h;have hnm:nq.length<=16:=by
     have:=h.1;rw [Kl] at this;rcases this with h | h
     ·exact zot h
     ·exact hl _ h
    exact⟨.mk _ _ _ h1 h2 hnm (fun x hx=>by cases hx),by rw [<- h.2,nodesT,nodesK]⟩
   ·split at h
    ·rename_i hk;have hk0:kids=[]:=by
      rw [hk] at h2;have:(kids.length:Int)=0:=h2;exact JS (by omega)
     subst hk0;have h:=Prod.mk.inj h;exact⟨.mk _ _ _ h1 h2 (zoi h.1) (fun x hx=>by cases hx),by rw [<- h.2,nodesT,nodesK]⟩
    ·split at h
     ·cases h
     ·rename_i hnm;have hnm:nq=[]:=Classical.byContradiction hnm;obtain⟨hv,hn⟩:=go kids (n+1) n' h;exact⟨.mk _ _ _ h1 h2 (by rw [hnm];exact Jh _) hv,by rw [hn,nodesT];omega⟩
where
 go:∀ (l:List Trm) n n',chkL lets n l=(true,n')->(∀ x∈l,VT x)/\n'=n+nodesK l
  | [],n,n',h=>by
   rw [chkL] at h;refine⟨fun x hx=>?_,?_⟩
   ·cases hx
   ·rw [nodesK];exact (Prod.mk.inj h).2.symm
  | t::r,n,n',h=>by
   rw [chkL] at h
   split at h
   ·cases h
   ·rename_i n2 e;obtain⟨h1,h2⟩:=zeN lets hl t n n2 e;obtain⟨h3,h4⟩:=go r n2 n' h;refine⟨fun x hx=>?_,by rw [h4,h2,nodesK];omega⟩;rcases JV.1 hx with rfl | hx
    ·exact h1
    ·exact h3 x hx
def PrLe (w w2:Pr) (n:Nat):Prop:=w2.text.length<=w.text.length+24*n/\w2.deep=w.deep/\w2.most<=max w.most (w.deep+n)/\w.text.length<=w2.text.length
theorem zf3:∀ t:Trm,1<=nodesT t
 | .mk _ _ _=>by rw [nodesT];omega
theorem za1 (w:Pr) (s:Bs):(putW w s).text.length=w.text.length+s.length:=lap
theorem zfu (k:Nat):(zhv k).length<=3:=by
 unfold zhv;rcases Nat.lt_or_ge k 10 with h | h
 ·have:∀ j:Fin 10,(([[],[],[124],[38],[92],[59],[94,45,49],[43],[42],[]]:List Bs).getD j.1 []).length<=3:=by decide
  exact this ⟨k,h⟩
 ·rw [gDe,Jo (by simpa using h)];decide
theorem zgm {t:Trm} (ht:∀ w,PrLe w (prT w t) (nodesT t)) (w:Pr) (least:Nat) (r:List Trm):(prHead w least (t::r)).text.length<=w.text.length+24*nodesT t+2/\(prHead w least (t::r)).deep=w.deep/\(prHead w least (t::r)).most<=max w.most (w.deep+nodesT t+1)/\w.text.length<=(prHead w least (t::r)).text.length:=by
 rw [prHead]
 split
 ·have:=ht w;exact⟨by have:=this.1;omega,this.2.1,by have:=this.2.2.1;omega,this.2.2.2⟩
 ·have:=ht (putW { w with deep:=w.deep+1,most:=max w.most (w.deep+1) } [40]);obtain⟨h1,h2,h3,h4⟩:=this;rw [za1] at h1 h4;have e1:([40]:Bs).length=1:=rfl;have e2:([41]:Bs).length=1:=rfl;dsimp only [putW] at h1 h2 h3 h4 ⊢;refine⟨?_,?_,?_,?_⟩
  ·rw [lap];omega
  ·omega
  ·omega
  ·rw [lap];omega
theorem zec:∀ t,VT t->∀ w,PrLe w (prT w t) (nodesT t)
 | .mk k nq kids,hv,w=>by
  obtain⟨hk,hl,hn,hkv⟩:=hv.inv;have ih:∀ x∈kids,∀ w,PrLe w (prT w x) (nodesT x):=fun x hx=>zec x (hkv x hx);rw [prT]
  split
  ·rw [nodesT];refine⟨by rw [za1];omega,rfl,by show w.most<=_;omega,by rw [za1];omega⟩
  ·split
   ·rw [nodesT];refine⟨by simp only [za1,Jq,JW];omega,rfl,by show w.most<=_;omega,by simp only [za1];omega⟩
   ·rename_i hk1 hk9
    split
    ·rename_i h68;have hl1:kids.length=1:=by
      rcases h68 with rfl | rfl | rfl
      all_goals
       have:(kids.length:Int)=1:=hl;omega
     match kids,hl1,ih with
     | [a],_,ih =>
      have h1:=zgm (ih a Jv) w 5 [];have h2:=zfu k.toNat;rw [nodesT,nodesK,nodesK];refine⟨by rw [za1];omega,h1.2.1,by have:=h1.2.2.1;show (prHead w 5 [a]).most<=_;omega,by rw [za1];omega⟩
    ·rename_i h68;have hl2:kids.length=2:=by
      have key:∀ j:Fin 10,j.1≠1->j.1≠9->j.1≠6->j.1≠7->j.1≠8->zb7 j.1=2\/zb7 j.1 = -1:=(by decide);have nk:∀ (m:UInt8),k≠m->k.toNat≠m.toNat:=fun m h e=>h (Kh.1 e);rcases key ⟨k.toNat,hk⟩ (nk 1 hk1) (nk 9 hk9) (nk 6 (fun e=>h68 (.inl e))) (nk 7 (fun e=>h68 (.inr (.inl e)))) (nk 8 (fun e=>h68 (.inr (.inr e)))) with h | h
      ·have h:zb7 k.toNat=2:=h;omega
      ·have h:zb7 k.toNat = -1:=h;omega
     match kids,hl2,ih with
     | [a,b],_,ih =>
      have h1:=zgm (ih a Jv) w (strN k.toNat) [b];have h2:=zfu k.toNat;have h3:=zgm (ih b (JB _ Jv)) (putW (putW (putW (prHead w (strN k.toNat) [a,b]) [32]) (zhv k.toNat)) [32]) (strN k.toNat+1) [];rw [nodesT,nodesK,nodesK,nodesK];rw [prTail];simp only [za1,Jq,JW] at h3;obtain⟨a1,a2,a3,a4⟩:=h1;obtain⟨b1,b2,b3,b4⟩:=h3;have na:=zf3 a;have nb:=zf3 b;dsimp only [putW] at b2 b3;refine⟨by omega,by dsimp only [putW];omega,?_,by omega⟩;dsimp only [putW];omega
end Go.Proofs.YtnadlhpkpnfmbaaGreatDoor
namespace Go.Proofs.YtnadlhpkpnfmbaaGreatDoor
open Go.Vc Go.RowKit Go.Sei
theorem zoU (s:Bs) (hs:s.length<=140737488351232) (w:World) (hg:GlobK w):Calls Tryz.prog 144 #[strV s] w fun e w'=>e = .returned (.bool (zeC s))/\w=w':=by
 refine cofE 27 [strV s] Tryz.func144 ?_;unfold zeC;refine⟨_,fun w=>zf7 _ _ s [] w,?_⟩;refine biE (fun h=>?_) fun h=>?_
 ·have h:(!decide (s=[]))=true:=h;have h0:s≠[]:=by simpa using h
  have hp:0<s.length:=List.length_pos_iff.2 h0;rw [Ka h0,Js];refine biE (fun h1=>?_) fun h1=>?_
  ·have h1:(s.length:Int)<=16:=dT h1;rw [Ka (p:=s.length<=16) (by omega),Js];refine⟨0,rfl,hp,s[0],zfQ hp,?_⟩;have e0:s.getD 0 0=s[0]:=by rw [gDe,gE hp];rfl
   rw [e0];refine cmo (zhQ s[0] w) ?_;rintro e _ ⟨rfl,rfl⟩;refine biE (fun h2=>?_) fun h2=>?_
   ·have h2:zc6 s[0]=true:=h2;rw [h2,Js];refine cmo (zir s 0 (Jh _) hs w) ?_;rintro e _ ⟨rfl,rfl⟩;have hd:decide (((runE zbm s 0:Nat):Int)=(s.length:Int))=decide (runE zbm s 0=s.length):=zaF;refine biE (fun h3=>?_) fun h3=>?_
    ·have h3:decide (runE zbm s 0=s.length)=true:=hd.symm.trans h3;rw [h3,Js];refine cmo (zmX s w hg) ?_;rintro e _ ⟨rfl,rfl⟩;exact⟨rfl,rfl⟩
    ·have h3:decide (runE zbm s 0=s.length)=false:=hd.symm.trans h3;refine⟨rb ?_,rfl⟩;rw [h3];rfl
   ·have h2:zc6 s[0]=false:=h2;refine brF ?_;refine⟨rb ?_,rfl⟩;rw [h2];rfl
  ·have h1:¬ (s.length:Int)<=16:=dF h1;refine brF ?_;refine brF ?_;refine⟨rb ?_,rfl⟩;rw [Kb (p:=s.length<=16) (by omega)];rfl
 ·have h:(!decide (s=[]))=false:=h;have h0:s=[]:=by simpa using h
  refine brF ?_;refine brF ?_;refine brF ?_;refine⟨rb ?_,rfl⟩;rw [h0];rfl
structure ChkB (kb l:Nat) (lets:Bs->Bool) (n:Nat) (w:World):Prop where
 f:w.heap[kb]?=some (.cells #[.map (some l),i64 (n:Nat)] 110 (0,0))
 lm:MapF keyS w l (mapB lets)
 ne:l≠kb
 og:3<kb
 ol:3<l
 glob:GlobK w
section
variable {kb l:Nat} {lets:Bs->Bool} {n:Nat} {w w2 X Y:World} {Q:Nat->Prop}
theorem ChkB.lt (h:ChkB kb l lets n w):kb<w.heap.size:=hlt h.f
theorem ChkB.below (h:ChkB kb l lets n w) (hb:Bw w w2):ChkB kb l lets n w2:=⟨zab hb h.f,h.lm.below hb,h.ne,h.og,h.ol,h.glob.below hb⟩
theorem ChkB.count (h:ChkB kb l lets n w) {m:Nat} {K:World->Prop} (k:∀ Y,ChkB kb l lets m Y->w.grownBy Y (some kb)->K Y) :
  SatR ((storeVar 3 ⟨kb,1,none⟩ (i64 (m:Nat))).run Tryz.prog w) fun _ w'=>K w':=by
 have hn:=h.ne;exact zaq k3 h.f (o:=1) (v:=i64 (m:Nat)) rfl rfl (by show 1<2;decide) rfl fun Y fY gY _=>k Y ⟨fY,h.lm.same (gY.block l (zbT h.lm) (by simp;omega)),hn,h.og,h.ol,h.glob.grown h.og gY⟩ gY
structure ChT (Q:Nat->Prop) (w:World) (kb l:Nat) (lets:Bs->Bool) (n tb:Nat) (t:Trm) (q:Option Addr) (cap:Nat) (X:World):Prop where
 p:ChkB kb l lets n X
 x:X.heap[tb]?=some (.cells (zad t q cap).toArray 24 (0,0))
 k:KidsT Q X q t.kids
 o:w.grownBy X (some kb)
 ne:tb≠kb
theorem ChT.grown {m tb:Nat} {t:Trm} {q:Option Addr} {cap:Nat} (hQ:∀ b,Q b->b≠kb) (h:ChT Q w kb l lets n tb t q cap X) (hY:ChkB kb l lets m Y) (g:X.grownBy Y (some kb)):ChT Q w kb l lets m tb t q cap Y:=by
 have hne:=h.ne;exact⟨hY,(g.block _ (hlt h.x) (by simp;omega)).trans h.x,h.k.by fun b cs ty fr hb hc=>g.block b (hlt hc) (by have:=hQ b hb;simp;omega),zaf h.o g,hne⟩
theorem zqt (hg:GlobK w) {k:Nat} (hk:k<10):w.cell? ⟨0,0+k,none⟩=some (i64 (zb7 k)):=by
 refine zac hg.nd ?_;have hk:k<zhH.length:=hk;rw [Jm,gE hk];unfold zb7;rw [gDe];show some (i64 zhH[k])=some (i64 ((zhH[k]?).getD (-1)));rw [gE hk];rfl
def ChkC (kb l:Nat) (lets:Bs->Bool) (Q:Nat->Prop) (t:Trm):Prop:=∀ (n:Nat) (q:Option Addr) (cap:Nat) (w:World),n<=400->ChkB kb l lets n w->t.name.length<=140737488351232->KidsT Q w q t.kids ->
 Calls Tryz.prog 49 #[At0 kb,.agg (zad t q cap).toArray] w fun e w'=>e = .returned (.bool (chkT lets n t).1)/\ChkB kb l lets (chkT lets n t).2 w'/\w.grownBy w' (some kb)
theorem zsQ (hQ:∀ b,Q b->b≠kb) {k:UInt8} {nq:Bs} {kids:List Trm} (ih:∀ x∈kids,ChkC kb l lets Q x):ChkC kb l lets Q (.mk k nq kids):=by
 intro n q cap w hn hB hnm hkd;refine cofM 71 [At0 kb,.agg (zad (.mk k nq kids) q cap).toArray] (.c .p (.c .p (.c .p (.c .p (.c .p (.c .p .p)))))) Tryz.func49 ?_;obtain⟨R,hR⟩:=nm (chkT lets n (.mk k nq kids));rw [<- hR];rw [chkT] at hR;have hkb:=hB.lt;have hkl:kids.length<=140737488351232:=hkd.inv.1;have nk:∀ m:UInt8,decide ((k.toNat:Int)=(m.toNat:Int))=decide (k=m):=fun m=>zbq k m;refine⟨Unit,fun _=>⟨[(0,At0 kb),(3,At0 w.heap.size)],[]⟩,fun _ X=>ChT Q w kb l lets n w.heap.size (.mk k nq kids) q cap X,⟨(),(cvE rfl rfl),hB.below (zba _ _),hnew w _,hkd.kept (zba _ _),zag (zba _ _),by omega⟩,?_⟩;rintro _ X hX;refine⟨Unit,fun _=>⟨[(0,At0 kb),(3,At0 w.heap.size)],[]⟩,fun _ X=>ChT Q w kb l lets (n+1) w.heap.size (.mk k nq kids) q cap X,?_,?_⟩
 ·refine⟨_,zac (zaa hX.p.f) (i:=1) rfl,?_⟩;refine nxI (by omega) ?_;refine hX.p.count (m:=n+1) fun Y hY gY=>?_;exact⟨(),(cvE rfl rfl),hX.grown hQ hY gY⟩
 clear hX hB;rintro _ X hX;have no:∀ {Y:World},ChT Q w kb l lets (n+1) w.heap.size (.mk k nq kids) q cap Y->R=(false,n+1)->Ending.returned (.bool false) = .returned (.bool R.1)/\ChkB kb l lets R.2 Y/\w.grownBy Y (some kb):=fun {Y} hY hR=>⟨rb (congrArg Prod.fst hR).symm,by rw [hR];exact hY.p,hY.o⟩;refine⟨Unit,fun _=>⟨[(0,At0 kb),(3,At0 w.heap.size)],[]⟩,fun _ X=>ChT Q w kb l lets (n+1) w.heap.size (.mk k nq kids) q cap X/\¬ (n+1 > 400\/k.toNat ≥ 10\/(kids.length:Int)≠zb7 k.toNat),?_,?_⟩
 ·refine DrawE.ord [] [0,1,2,3,4,5,6,7,8,9,10,11,12,13,14,15,16,17,18,19,20] (by kernel_rfl) ?_;have bD:=(Ja X.heap.size X).drew;have hD:ChT Q w kb l lets (n+1) w.heap.size (.mk k nq kids) q cap X.drew:=hX.grown hQ (hX.p.below bD) (zag bD);refine⟨_,zac (zaa hD.p.f) (i:=1) rfl,?_⟩;have bad:(n+1 > 400\/k.toNat ≥ 10\/(kids.length:Int)≠zb7 k.toNat)->R=(false,n+1):=fun h=>by rw [hR,Kc h]
  refine biE (fun h1=>?_) fun h1=>?_
  ·have h1:(400:Int)<((n+1:Nat):Int):=dT h1;refine brT ?_;refine brT ?_;exact no hD (bad (.inl (by omega)))
  have h1:¬ (400:Int)<((n+1:Nat):Int):=dF h1;refine⟨_,zac (zaa hD.x) (i:=0) rfl,?_⟩;have hk8:=k.toNat_lt;refine⟨(k.toNat:Int),zaj (a:=(k.toNat:Int)) (by omega),?_⟩;refine biE (fun h2=>?_) fun h2=>?_
  ·have h2:(10:Int)<=(k.toNat:Int):=dT h2;refine brT ?_;exact no hD (bad (.inr (.inl (by omega))))
  have h2:¬ (10:Int)<=(k.toNat:Int):=dF h2;refine⟨_,zac (zaa hD.x) (i:=2) rfl,?_⟩;refine⟨_,zac (zaa hD.x) (i:=0) rfl,?_⟩;refine⟨k.toNat,rfl,by omega,?_⟩;refine⟨_,by rw [Jp];exact zqt hD.p.glob (by omega),?_⟩;refine biE (fun h3=>?_) fun h3=>?_
  ·have h3:(!decide ((kids.length:Int)=zb7 k.toNat))=true:=h3;exact no hD (bad (.inr (.inr (by simpa using h3))))
  ·have h3:(!decide ((kids.length:Int)=zb7 k.toNat))=false:=h3;have h3:(kids.length:Int)=zb7 k.toNat:=by simpa using h3
   exact⟨(),(cvE rfl rfl),hD,by rintro (h | h | h);omega;omega;exact h h3⟩
 clear hX;rintro _ X ⟨hX,hgood⟩;rw [JZ hgood] at hR;refine⟨Unit,fun _=>⟨[(0,At0 kb),(3,At0 w.heap.size)],[]⟩,fun _ X=>ChT Q w kb l lets (n+1) w.heap.size (.mk k nq kids) q cap X/\k≠1/\k≠9,?_,?_⟩
 ·refine⟨_,zac (zaa hX.x) (i:=0) rfl,?_⟩;refine biE (fun h1=>?_) fun h1=>?_
  ·have h1:k=1:=dT ((nk 1).symm.trans h1);rw [Kc h1] at hR;refine DrawE.ord [] [0,1,2,3,4,5,6,7,8,9,10,11,12] (by kernel_rfl) ?_;have bD:=(Ja X.heap.size X).drew;have hD:ChT Q w kb l lets (n+1) w.heap.size (.mk k nq kids) q cap X.drew:=hX.grown hQ (hX.p.below bD) (zag bD);refine⟨_,zac (zaa hD.x) (i:=1) rfl,?_⟩;refine cmo (zhU nq _) ?_;rintro e _ ⟨rfl,rfl⟩;refine⟨Ja _ _,?_⟩;refine biE (fun h2=>?_) fun h2=>?_
   ·have h2:relB nq=true:=h2;exact⟨rb (by rw [hR,h2];rfl),by rw [hR];exact hD.p,hD.o⟩
   ·have h2:relB nq=false:=h2;refine⟨_,zac (zaa hD.p.f) (i:=0) rfl,?_⟩;refine⟨_,zac (zaa hD.x) (i:=1) rfl,?_⟩;refine⟨_,fun w2 hb=>zeE (hD.p.lm.below hb) nq,?_⟩;exact⟨rb (by rw [hR,h2];rfl),by rw [hR];exact hD.p,hD.o⟩
  have h1:k≠1:=dF ((nk 1).symm.trans h1);rw [JZ h1] at hR;refine biE (fun h2=>?_) fun h2=>?_
  ·have h2:k=9:=dT ((nk 9).symm.trans h2);rw [Kc h2] at hR;refine⟨_,zac (zaa hX.x) (i:=1) rfl,?_⟩;refine cmo (zmW nq X) ?_;rintro e _ ⟨rfl,rfl⟩;exact⟨rb (congrArg Prod.fst hR).symm,by rw [hR];exact hX.p,hX.o⟩
  ·have h2:k≠9:=dF ((nk 9).symm.trans h2);exact⟨(),(cvE rfl rfl),hX,h1,h2⟩
 clear hX;rintro _ X ⟨hX,h1,h9⟩;rw [JZ h1,JZ h9] at hR;refine⟨Unit,fun _=>⟨[(0,At0 kb),(3,At0 w.heap.size)],[]⟩,fun _ X=>ChT Q w kb l lets (n+1) w.heap.size (.mk k nq kids) q cap X/\nq=[],?_,?_⟩
 ·refine⟨_,zac (zaa hX.x) (i:=1) rfl,?_⟩;refine⟨_,fun w=>zf7 _ _ nq [] w,?_⟩;refine biE (fun h2=>?_) fun h2=>?_
  ·have h2:(!decide (nq=[]))=true:=h2;have h2:nq≠[]:=by simpa using h2
   rw [Kc h2] at hR;exact no hX hR
  ·have h2:(!decide (nq=[]))=false:=h2;exact⟨(),(cvE rfl rfl),hX,by simpa using h2⟩
 clear hX;rintro _ X ⟨hX,hnm0⟩;rw [JZ (fun h=>h hnm0)] at hR;refine⟨Nat,fun _=>⟨[],[]⟩,fun m X=>ChkB kb l lets m X/\w.grownBy X (some kb)/\R=(true,m),?_,?_⟩
 ·refine⟨_,zac (zaa hX.x) (i:=2) rfl,?_⟩;refine⟨Nat×Nat,fun y=>⟨[(0,At0 kb),(3,At0 w.heap.size),(60,.slice q kids.length cap),(61,i64 (kids.length:Nat)),(62,.int .i64 (y.1:Nat))],[]⟩,fun y X=>ChT Q w kb l lets y.2 w.heap.size (.mk k nq kids) q cap X/\y.1<=kids.length/\y.2<=400/\R=chkL lets y.2 (kids.drop y.1),fun y=>kids.length-y.1,(0,n+1),(cvE rfl rfl),⟨hX,Jh _,by dsimp only;omega,hR⟩,?_⟩;clear hX hR;rintro⟨i,m⟩ X ⟨hX,hi,hm,hR⟩;dsimp only at hX hi hm hR ⊢;refine biE (fun hc=>?_) fun hc=>?_
  ·have hc:(i:Int)<(kids.length:Int):=dT hc;have hil:i<kids.length:=by omega
   obtain⟨_,b,o,hq,hcl⟩:=hX.k.inv;obtain⟨q2,c2,hnl,hQb,hcell,hk2⟩:=hcl i hil;have hcell:zav X ⟨b,o+i*3,none⟩ (zad kids[i] q2 c2):=hcell;have hk2:KidsT Q X q2 kids[i].kids:=hk2;have hnl:kids[i].name.length<=140737488351232:=hnl;obtain rfl:q=some ⟨b,o,none⟩:=by
    rcases hq with h | h
    ·have h:kids.length=0:=h;omega
    ·exact h
   have hbs:b<X.heap.size:=by
    have h0:=hcell 0 _ rfl;unfold World.cell? at h0
    split at h0
    ·rename_i hb;exact hlt hb
    ·cases h0
   refine⟨i,rfl,hil,?_⟩;refine⟨zad kids[i] q2 c2,rfl,hcell,hbs,?_⟩;refine zak (X:=X) (v := .agg (zad kids[i] q2 c2).toArray) k24 rfl rfl rfl fun Y hbY fY sY=>?_;have hY:ChT Q w kb l lets m w.heap.size (.mk k nq kids) (some ⟨b,o,none⟩) cap Y:=hX.grown hQ (hX.p.below hbY) (zag hbY);refine⟨zad kids[i] q2 c2,rfl,zaa fY,hlt fY,?_⟩;refine cmo (ih kids[i] (gM hil) m q2 c2 Y hm hY.p hnl (hk2.kept hbY)) ?_;have hmono:=zfL lets m kids[i];rw [JH hil,chkL] at hR;rcases hck:chkT lets m kids[i] with ⟨b2,m2⟩;rw [hck] at hR hmono;rintro e Z ⟨rfl,hZ,gZ⟩;dsimp only at hZ hmono ⊢;have hZZ:=hY.grown hQ hZ gZ;refine biE (fun hb=>?_) fun hb=>?_
   ·have hb:(!b2)=true:=hb;have hb:b2=false:=(by simpa using hb);subst hb;have hR:R=(false,m2):=hR;exact⟨rb (congrArg Prod.fst hR).symm,by rw [hR];exact hZ,hZZ.o⟩
   ·have hb:(!b2)=false:=hb;have hb:b2=true:=(by simpa using hb);subst hb;refine nxI (by omega) ?_;exact⟨(i+1,m2),(cvE rfl rfl),⟨hZZ,hil,hmono.2 rfl,hR⟩,by dsimp only;omega⟩
  ·have hc:¬ (i:Int)<(kids.length:Int):=dF hc;rw [JI (by omega),chkL] at hR;exact⟨m,⟨.nil,rfl⟩,hX.p,hX.o,hR⟩
 clear hX hR;rintro m X ⟨hX,gX,hR⟩;exact⟨rb (congrArg Prod.fst hR).symm,by rw [hR];exact hX,gX⟩
theorem zrh (hQ:∀ b,Q b->b≠kb):∀ t,ChkC kb l lets Q t
 | .mk k nq kids=>zsQ hQ fun x hx=>zrh hQ x
end
structure LnB (w0 w:World) (kb l cb:Nat) (lets checks:Bs->Bool) (n:Nat) (X:World):Prop where
 p:ChkB kb l lets n X
 c:MapF keyS X cb (mapB checks)
 b:Bw w0 X
 o:Oth kb l l w X
 lo:w0.heap.size<=kb/\w0.heap.size<=l/\w0.heap.size<=w.heap.size
 hi:kb<w.heap.size/\l<w.heap.size/\w.heap.size<=cb
section
variable {w0 w X Y:World} {kb l cb n m:Nat} {lets checks:Bs->Bool}
theorem LnB.grown (h:LnB w0 w kb l cb lets checks n X) (hY:ChkB kb l lets m Y) (g:X.grownBy Y (some kb)):LnB w0 w kb l cb lets checks m Y:=by
 have h1:=h.lo;have h2:=h.hi;refine⟨hY,h.c.same (g.block _ (zbT h.c) (by simp;omega)),h.b.trans (zan g h.b.size h1.1),h.o.trans (.of_grown g),h1,h2⟩
theorem LnB.below (h:LnB w0 w kb l cb lets checks n X) (hb:Bw X Y):LnB w0 w kb l cb lets checks n Y :=
 h.grown (h.p.below hb) (zag hb)
theorem LnB.setL (h:LnB w0 w kb l cb lets checks n X) (nq:Bs) {K:World->Prop} (k:∀ Y,LnB w0 w kb l cb (setP lets nq) checks n Y->X.grownBy Y (some l)->K Y) :
  SatR ((Instr.mapUpdate 105 (.map (some l)) (strV nq) (.bool true)).run Tryz.prog X) fun _ w'=>K w':=by
 obtain⟨o,hr,hm⟩:=zbx skey Tryz.underlying105 h.p.lm nq (.bool true);have h1:=h.lo;have h2:=h.hi;have h3:=h.p.ne;have gr:=zeH X l o;exact SatR.mk hr (k _ ⟨⟨(gr.block _ (hlt h.p.f) (by simp;omega)).trans h.p.f,by rw [zfv] at hm;exact hm,h3,h.p.og,h.p.ol,h.p.glob.grown h.p.ol gr⟩,h.c.same (gr.block _ (zbT h.c) (by simp;omega)),h.b.trans (zan gr h.b.size h1.2.1),h.o.trans ⟨gr.os,gr.tape,gr.output,gr.size,fun j hj _ hn _=>gr.block j hj (by simp;omega)⟩,h1,h2⟩ gr)
theorem LnB.setC (h:LnB w0 w kb l cb lets checks n X) (nq:Bs) {K:World->Prop} (k:∀ Y,LnB w0 w kb l cb lets (setP checks nq) n Y->X.grownBy Y (some cb)->K Y) :
  SatR ((Instr.mapUpdate 105 (.map (some cb)) (strV nq) (.bool true)).run Tryz.prog X) fun _ w'=>K w':=by
 obtain⟨o,hr,hm⟩:=zbx skey Tryz.underlying105 h.c nq (.bool true);have h1:=h.lo;have h2:=h.hi;have h3:=h.p.ne;have h4:=h.p.og;have gr:=zeH X cb o;exact SatR.mk hr (k _ ⟨⟨(gr.block _ (hlt h.p.f) (by simp;omega)).trans h.p.f,h.p.lm.same (gr.block _ (zbT h.p.lm) (by simp;omega)),h3,h4,h.p.ol,h.p.glob.grown (by omega) gr⟩,by rw [zfv] at hm;exact hm,h.b.trans (zan gr h.b.size (by omega)),h.o.then (zan gr h.o.size (by omega)),h1,h2⟩ gr)
theorem zqA {ls:List LineD} {p:Option Addr} {cap:Nat} (hM:LinsM (fun _=>True) w0 p ls) (hlen:ls.length<=140737488351232) (hB:ChkB kb l lets n w) (hn:n<=400) (hb:Bw w0 w) (h1:w0.heap.size<=kb) (h2:w0.heap.size<=l) :
  Calls Tryz.prog 91 #[At0 kb,.slice p ls.length cap] w fun e w'=>∃ lets' m,e = .returned (.bool (decide (ls.length<=40)&&(zaK lets (fun _=>false) n ls).1))/\(ls.length<=40->(zaK lets (fun _=>false) n ls).1=true->lets'=(zaK lets (fun _=>false) n ls).2)/\ChkB kb l lets' m w'/\Oth kb l l w w'/\Bw w0 w':=by
 refine cofM 54 [At0 kb,.slice p ls.length cap] (.s .p (.c .p (.s .p (.s (.s .p (.b (.l (.s .p (.s .p (.s (.b (.c .p (.c .p (.s .p (.c .p (.c .p .p)))))) .p)))))) .p)))) Tryz.func91 ?_;have hkb:=hB.lt;have hll:=zbT hB.lm;obtain⟨rows,hrl,hrow,hrk,_⟩:=hM;have hrn:rows.length=ls.length:=by rw [<- hrl,Jc]
 refine⟨Nat,fun cb=>⟨[(0,At0 kb),(1,.slice p ls.length cap),(5,.map (some cb))],[]⟩,fun cb X=>LnB w0 w kb l cb lets (fun _=>false) n X,?_,?_⟩
 ·refine⟨Value.map (some w.heap.size),w.alloc (.map #[] 0),rfl,?_⟩;have m3:MapF (key:=keyS) (w.alloc (.map #[] 0)) w.heap.size (fun (_:Bs)=>none):=MapF.new;exact⟨w.heap.size,(cvE rfl rfl),hB.below (zba _ _),m3,hb.trans ((zba w (.map #[] 0)).mono hb.size),.of_below (zba _ _),⟨h1,h2,hb.size⟩,hkb,hll,Jb _⟩
 rintro cb X hX;refine biE (fun h3=>?_) fun h3=>?_
 ·have h3:(40:Int)<(ls.length:Int):=dT h3;exact⟨lets,n,rb (by rw [Kb (by omega)];rfl),fun h=>Kv h (by omega),hX.p,hX.o,hX.b⟩
 have h3:¬ (40:Int)<(ls.length:Int):=dF h3;obtain⟨R,hR⟩:=nm (zaK lets (fun _=>false) n ls);rw [<- hR,Ka (p:=ls.length<=40) (by omega),Js];have fin:∀ {Z:World} {lets2 checks2:Bs->Bool} {m:Nat} {lets3:Bs->Bool},LnB w0 w kb l cb lets2 checks2 m Z->R=(false,lets3)->∃ lets' m,Ending.returned (.bool false) = .returned (.bool R.1)/\(ls.length<=40->R.1=true->lets'=R.2)/\ChkB kb l lets' m Z/\Oth kb l l w Z/\Bw w0 Z:=fun {Z lets2 checks2 m lets3} hZ hR =>
  ⟨lets2,m,rb (congrArg Prod.fst hR).symm,(fun _ h=>by rw [hR] at h;cases h),hZ.p,hZ.o,hZ.b⟩
 refine⟨Nat×(Bs->Bool)×(Bs->Bool)×Nat,fun y=>⟨[(0,At0 kb),(5,.map (some cb)),(13,.slice p ls.length cap),(14,i64 (ls.length:Nat)),(15,.int .i64 (y.1:Nat))],[]⟩,fun y X=>LnB w0 w kb l cb y.2.1 y.2.2.1 y.2.2.2 X/\y.1<=ls.length/\y.2.2.2<=400/\R=zaK y.2.1 y.2.2.1 y.2.2.2 (ls.drop y.1),fun y=>ls.length-y.1,(0,lets,fun _=>false,n),(cvE rfl rfl),⟨hX,Jh _,hn,hR⟩,?_⟩;clear hX hR;rintro⟨i,lets,checks,n⟩ X ⟨hX,hi,hn,hR⟩;dsimp only at hX hi hn hR ⊢;refine biE (fun hc=>?_) fun hc=>?_
 ·have hc:(i:Int)<(ls.length:Int):=dT hc;have hil:i<ls.length:=by omega
  have hir:i<rows.length:=by omega
  obtain⟨x,hx⟩:=nm (ls[i]);have hxr:rows[i].1=x:=by
   rw [hx];have:(rows.map (·.1))[i]?=ls[i]?:=by rw [hrl]
   rw [Jm,gE hir,gE hil] at this;exact Jg this
  rw [JH hil,<- hx] at hR;rw [zaK] at hR;obtain⟨bk,o,hp,hbk,hcl⟩:=hrow.at hir;subst hp;obtain⟨k1,k2,k3,k4⟩:=hrk rows[i] (gM hir);have hcell:zav w0 ⟨bk,o+i*5,none⟩ (zas rows[i].1.kind rows[i].1.name rows[i].1.term rows[i].2.1 rows[i].2.2):=hcl i hir;rw [hxr] at hcell k1 k2 k3 k4;obtain⟨q,hq⟩:=nm (rows[i].2.1);obtain⟨cp,hcp⟩:=nm (rows[i].2.2);rw [<- hq,<- hcp] at hcell;rw [<- hq] at k4;have kd:KidsT (fun b=>b<w0.heap.size) w0 q x.term.kids:=k4.there.weak fun b hb=>hb.2;have kids:∀ {Z:World},Bw w0 Z->KidsT (fun b=>b<w0.heap.size) Z q x.term.kids:=fun {Z} hZ=>kd.by fun b cs ty fr hb hc=>hZ.block b hb
  clear k4 hrow hrk hcl;refine⟨Nat,fun b7=>⟨[(0,At0 kb),(5,.map (some cb)),(7,At0 b7),(13,.slice (some ⟨bk,o,none⟩) ls.length cap),(14,i64 (ls.length:Nat)),(15,.int .i64 (i:Nat))],[]⟩,fun b7 Y=>LnB w0 w kb l cb lets checks n Y/\Y.heap[b7]?=some (.cells (zas x.kind x.name x.term q cp).toArray 49 (0,0))/\w.heap.size<=b7/\b7≠cb,?_,?_⟩
  ·refine⟨i,rfl,hil,zas x.kind x.name x.term q cp,rfl,zbb hX.b hbk hcell,nL hbk hX.b.size,zak (X:=X) (v := .agg (zas x.kind x.name x.term q cp).toArray) k49 rfl rfl rfl fun Y hbY fY sY=>?_⟩;have:=zbT hX.c;exact⟨X.heap.size,(cvE rfl rfl),hX.below hbY,fY,hX.o.size,by omega⟩
  clear hX X hcell;rintro b7 X ⟨hX,fx,hb7,hb7c⟩;have hnl:x.name.length<=140737488351232:=k2;refine⟨Nat,fun m=>⟨[(0,At0 kb),(5,.map (some cb)),(7,At0 b7),(13,.slice (some ⟨bk,o,none⟩) ls.length cap),(14,i64 (ls.length:Nat)),(15,.int .i64 (i:Nat))],[]⟩,fun m Y=>LnB w0 w kb l cb lets checks m Y/\Y.heap[b7]?=some (.cells (zas x.kind x.name x.term q cp).toArray 49 (0,0))/\m<=400/\¬ (x.kind > 3\/zeC x.name=false)/\chkT lets n x.term=(true,m),?_,?_⟩
  ·refine⟨_,zac (zaa fx) (i:=0) rfl,?_⟩;have bad:(x.kind > 3\/zeC x.name=false)->R=(false,lets):=fun h=>by rw [hR,Kc h]
   refine biE (fun h4=>?_) fun h4=>?_
   ·have h4:(3:Int)<(x.kind:Int):=dT h4;exact brT (brT (fin hX (bad (.inl (by omega)))))
   have h4:¬ (3:Int)<(x.kind:Int):=dF h4;refine⟨_,zac (zaa fx) (i:=1) rfl,cmo (zoU x.name hnl X hX.p.glob) ?_⟩;rintro e _ ⟨rfl,rfl⟩;refine biE (fun h5=>?_) fun h5=>?_
   ·have h5:(!zeC x.name)=true:=h5;exact brT (fin hX (bad (.inr (by simpa using h5))))
   have h5:(!zeC x.name)=false:=h5;have h5:zeC x.name=true:=by simpa using h5
   have hgood:¬ (x.kind > 3\/zeC x.name=false):=by rintro (h | h);omega;rw [h5] at h;cases h
   rw [JZ hgood] at hR;have ht:zav X ⟨b7,0+2,none⟩ (zad x.term q cp):=za9 (o:=2) (n:=3) fx;refine⟨zad x.term q cp,rfl,ht,hlt fx,?_⟩;have hck:=zrh (kb:=kb) (l:=l) (lets:=lets) (Q:=fun b=>b<w0.heap.size) (fun b hb=>by have:=hX.lo;omega) x.term n q cp X hn hX.p k3 (kids hX.b);have hmono:=zfL lets n x.term;rcases hce:chkT lets n x.term with ⟨b2,m⟩;rw [hce] at hR hck hmono;refine cmo hck ?_;rintro e Y ⟨rfl,hY,gY⟩;dsimp only at hY hmono ⊢;have hYY:=hX.grown hY gY;have h9:=hX.hi;have fY:=(gY.block _ (hlt fx) (by simp;omega)).trans fx;refine biE (fun h6=>?_) fun h6=>?_
   ·have h6:(!b2)=true:=h6;have h6:b2=false:=(by simpa using h6);subst h6;exact fin hYY hR
   ·have h6:(!b2)=false:=h6;have h6:b2=true:=(by simpa using h6);subst h6;exact⟨m,(cvE rfl rfl),hYY,fY,hmono.2 rfl,hgood,rfl⟩
  clear hX fx X;rintro m X ⟨hX,fx,hm,hgood,hce⟩;rw [JZ hgood,hce] at hR;dsimp only at hR;refine⟨Nat,fun nb=>⟨[(0,At0 kb),(5,.map (some cb)),(7,At0 b7),(8,.map (some nb)),(13,.slice (some ⟨bk,o,none⟩) ls.length cap),(14,i64 (ls.length:Nat)),(15,.int .i64 (i:Nat))],[]⟩,fun nb Y=>X=Y/\((x.kind=0/\nb=l/\relB x.name=false)\/(x.kind≠0/\nb=cb)),?_,?_⟩
  ·refine⟨_,zac (zaa fx) (i:=0) rfl,biE (fun h4=>?_) fun h4=>?_⟩
   ·have h4:(x.kind:Int)=0:=dT h4;rw [Kc (by omega)] at hR;refine⟨_,zac (zaa hX.p.f) (i:=0) rfl,_,zac (zaa fx) (i:=1) rfl,cmo (zhU x.name X) ?_⟩;rintro e _ ⟨rfl,rfl⟩;refine biE (fun h5=>?_) fun h5=>?_
    ·have h5:relB x.name=true:=h5;rw [h5,Bool.true_or,Kc rfl] at hR;exact fin hX hR
    ·have h5:relB x.name=false:=h5;exact⟨l,(cvE rfl rfl),rfl,.inl ⟨by omega,rfl,h5⟩⟩
   ·have h4:¬ (x.kind:Int)=0:=dF h4;exact⟨cb,(cvE rfl rfl),rfl,.inr ⟨by omega,rfl⟩⟩
  rintro nb _ ⟨rfl,hnb⟩;refine⟨Unit,fun _=>⟨[(0,At0 kb),(5,.map (some cb)),(7,At0 b7),(8,.map (some nb)),(13,.slice (some ⟨bk,o,none⟩) ls.length cap),(14,i64 (ls.length:Nat)),(15,.int .i64 (i:Nat))],[]⟩,fun nb Y=>X=Y/\((x.kind=0/\lets x.name=false)\/(x.kind≠0/\checks x.name=false)),?_,?_⟩
  ·refine⟨_,zac (zaa fx) (i:=1) rfl,?_⟩;obtain⟨gf,hm8,hgf⟩:∃ gf:Bs->Bool,MapF keyS X nb (mapB gf)/\((x.kind=0/\gf=lets/\relB x.name=false)\/(x.kind≠0/\gf=checks)):=by
    rcases hnb with ⟨e1,rfl,e3⟩ | ⟨e1,rfl⟩
    ·exact⟨lets,hX.p.lm,.inl ⟨e1,rfl,e3⟩⟩
    ·exact⟨checks,hX.c,.inr ⟨e1,rfl⟩⟩
   refine⟨_,fun w2 hb=>zeE (hm8.below hb) x.name,biE (fun h5=>?_) fun h5=>?_⟩
   ·have h5:gf x.name=true:=h5;rcases hgf with ⟨e1,rfl,e3⟩ | ⟨e1,rfl⟩
    ·rw [Kc e1,h5,Bool.or_true,Kc rfl] at hR;exact fin hX hR
    ·rw [JZ e1,Kc h5] at hR;exact fin hX hR
   ·have h5:gf x.name=false:=h5;refine⟨(),(cvE rfl rfl),rfl,?_⟩;rcases hgf with ⟨e1,rfl,e3⟩ | ⟨e1,rfl⟩
    ·exact .inl ⟨e1,h5⟩
    ·exact .inr ⟨e1,h5⟩
  rintro _ _ ⟨rfl,hfr⟩;refine⟨_,zac (zaa fx) (i:=1) rfl,?_⟩;rcases hnb with ⟨e1,rfl,e3⟩ | ⟨e1,rfl⟩
  ·have hf:lets x.name=false:=by rcases hfr with h | h;exact h.2;exact Kv e1 h.1
   rw [Kc e1,e3,hf,Bool.or_false,JZ JU] at hR;exact hX.setL x.name fun Y hY _=>nxI (by omega) ⟨(i+1,setP lets x.name,checks,m),(cvE rfl rfl),⟨hY,hil,hm,hR⟩,by dsimp only;omega⟩
  ·have hf:checks x.name=false:=by rcases hfr with h | h;exact Kv h.1 e1;exact h.2
   rw [JZ e1,hf,JZ JU] at hR;exact hX.setC x.name fun Y hY _=>nxI (by omega) ⟨(i+1,lets,setP checks x.name,m),(cvE rfl rfl),⟨hY,hil,hm,hR⟩,by dsimp only;omega⟩
 ·have hc:¬ (i:Int)<(ls.length:Int):=dF hc;rw [JI (by omega),zaK] at hR;exact⟨lets,n,rb (congrArg Prod.fst hR).symm,(fun _ _=>by rw [hR]),hX.p,hX.o,hX.b⟩
end
theorem zhs (s:Bs):Go.Lib.strCells (bs s)=s.flatMap zaI.enc:=by
 have e1:Go.Lib.strCells (bs s)=s.map u8:=rfl;rw [e1]
 induction s with
 | nil=>rfl
 | cons a r ih=>rw [Kj,<- ih rfl];rfl
theorem zrr {w:World} {t u ty B cap:Nat} {p:Option Addr} {l:Bs} {iT:TI} (hu:Tryz.prog.underlying t=some (.slice 5)) (hs:Tryz.prog.underlying u=some .string) (hT:TIok Tryz.prog 5 iT) (hz:iT.zero=some [.int .u8 0]) (h1:iT.size=1) (hby:iT.bytes=1)
  (ho:OwnS zaI 5 B w p cap l) (s:Bs) (hl:l.length+s.length<=1000000000) (hB:B<=w.heap.size) {K:Value->World->Prop}
  (k:∀ p' cap' w',OwnS zaI 5 B w' p' cap' (l++s)->w.grownBy w' (Value.slice p l.length cap).ownBlock->K (.slice p' (l++s).length cap') w') :
  SatR ((Builtin.append_ #[t,u] ty #[.slice p l.length cap,strV s]).run Tryz.prog w) K:=by
 obtain⟨⟨inf,hi,hsz,hbb,hzz⟩,_⟩:=hT;obtain⟨zv,hzv,hzc⟩:=hzz _ hz;have hz0:zv = .int .u8 0:=by
  have he:inf.zero=some (.int .u8 0):=by
   have:(Tryz.prog.info? 5).bind (fun i=>i.zero)=some (.int .u8 0):=by kernel_rfl
   rw [hi] at this;exact this
  exact Jg (hzv.symm.trans he)
 subst hz0;obtain⟨v',w',hr,ho',hg,_⟩:=Go.Lib.run_append_own_string (P:=Tryz.prog) w B t u ty 5 inf hu hs hi hzv (hsz.trans h1) (hbb.trans hby) (.slice p l.length cap) l.length (l.flatMap zaI.enc) ho (bs s) (by unfold maxLen;show l.length+s.length<=_;omega) (by show l.length+s.length<=_;omega) hB;have e1:l.flatMap zaI.enc++Go.Lib.strCells (bs s)=(l++s).flatMap zaI.enc:=by
  rw [List.flatMap_append,zhs]
 have e2:l.length+(bs s).size=(l++s).length:=by rw [lap];rfl
 rw [e1,e2] at ho';refine SatR.mk hr ?_;rcases ho'.2 with ⟨rfl,h0⟩ | ⟨g,cap',cur,rfl,rest⟩
 ·have:K (.slice none (l++s).length 0) w':=k none 0 w' (by unfold OwnS;rw [h0] at ho' ⊢;exact ho') hg;rw [h0] at this;exact this
 ·exact k _ _ w' ho' hg
structure PrB (wb:Nat) (pr:Pr) (X:World):Prop where
 f:∃ q cap,X.heap[wb]?=some (.cells #[.slice q pr.text.length cap,i64 (pr.deep:Nat),i64 (pr.most:Nat)] 113 (0,0))/\OwnS zaI 5 (wb+1) X q cap pr.text
 og:3<wb
 glob:GlobK X
structure PrS (wb:Nat) (X Y:World):Prop where
 os:Y.os=X.os
 tape:Y.tape=X.tape
 output:Y.output=X.output
 size:X.heap.size<=Y.heap.size
 low:∀ j,j<wb->Y.heap[j]?=X.heap[j]?
 block:∀ (j:Nat) (cs:Array Value) (t:TypeId),j≠wb->t≠5->X.heap[j]?=some (.cells cs t (0,0))->Y.heap[j]?=X.heap[j]?
section
variable {wb tb:Nat} {pr pr2:Pr} {w X Y Z:World}
theorem PrS.refl:PrS wb X X:=⟨rfl,rfl,rfl,Jb _,fun _ _=>rfl,fun _ _ _ _ _ _=>rfl⟩
theorem PrS.trans (h:PrS wb X Y) (k:PrS wb Y Z):PrS wb X Z :=
 ⟨k.os.trans h.os,k.tape.trans h.tape,k.output.trans h.output,Jj h.size k.size,fun j hj=>(k.low j hj).trans (h.low j hj),fun j cs t h1 h2 h3=>(k.block j cs t h1 h2 ((h.block j cs t h1 h2 h3).trans h3)).trans (h.block j cs t h1 h2 h3)⟩
theorem PrS.of_below (h:Bw X Y) (hw:wb<=X.heap.size):PrS wb X Y :=
 ⟨h.os,h.tape,h.output,h.size,fun j hj=>h.block j (by omega),fun j cs t _ _ hc=>h.block j (hlt hc)⟩
theorem PrS.of_grown (h:X.grownBy Y (some wb)) (hw:wb<=X.heap.size):PrS wb X Y :=
 ⟨h.os,h.tape,h.output,h.size,fun j hj=>h.block j (by omega) (by simp;omega),fun j cs t hn _ hc=>h.block j (hlt hc) (by simp;omega)⟩
theorem PrB.lt (h:PrB wb pr X):wb<X.heap.size:=by
 obtain⟨_,_,f,_⟩:=h.f;exact hlt f
theorem PrB.below (h:PrB wb pr X) (hb:Bw X Y):PrB wb pr Y:=by
 obtain⟨q,cap,f,o⟩:=h.f;exact⟨⟨q,cap,zab hb f,o.below hb⟩,h.og,h.glob.below hb⟩
theorem PrB.num (h:PrB wb pr X) {deep most:Nat} {o:Nat} {v:Value} (ho:o=1/\v=i64 (deep:Nat)/\most=pr.most\/o=2/\v=i64 (most:Nat)/\deep=pr.deep) {K:World->Prop} (k:∀ Y,PrB wb { pr with deep:=deep,most:=most } Y->PrS wb X Y->K Y) :
  SatR ((storeVar 3 ⟨wb,o,none⟩ v).run Tryz.prog X) fun _ w'=>K w':=by
 obtain⟨q,cap,f,ow⟩:=h.f;have hw:=hlt f;have key:∀ Y,Y.heap[wb]?=some (.cells #[.slice q pr.text.length cap,i64 (deep:Nat),i64 (most:Nat)] 113 (0,0))->X.grownBy Y (some wb)->K Y:=fun Y fY gY =>
  k Y ⟨⟨q,cap,fY,ow.kept gY fun gg hg e=>by have h5:wb+1<=gg:=(zau ow hg).1;simp at e;omega⟩,h.og,h.glob.grown h.og gY⟩ (.of_grown gY (by omega))
 rcases ho with ⟨rfl,rfl,rfl⟩ | ⟨rfl,rfl,rfl⟩
 ·exact zaq k3 f (o:=1) rfl rfl (by show 1<3;decide) rfl fun Y fY gY _=>key Y fY gY
 ·exact zaq k3 f (o:=2) rfl rfl (by show 2<3;decide) rfl fun Y fY gY _=>key Y fY gY
theorem zoK {x y:Int} {T:Array TypeId} {t:TypeId} {w:World} {K:Value->World->Prop} (k:K (.int .i64 (if x<y then y else x)) w):SatR ((Builtin.max_ T t [Value.int .i64 x,.int .i64 y].toArray).run Tryz.prog w) K :=
 SatR.mk (v := .int .i64 (if x<y then y else x)) (w':=w) (by simp [Builtin.max_,Builtin.max2]) k
def catL:List Bs->Nat
 | []=>0
 | s::r=>s.length+catL r
theorem znB:∀ (l:List Bs) (i:Nat) (h:i<l.length),catL (l.drop i)=l[i].length+catL (l.drop (i+1)):=fun l i h=>by
 rw [JH h,catL]
def putL (pr:Pr) (l:List Bs):Pr:=l.foldl putW pr
theorem zr3 {l:List Bs} {sb:Nat} (h:PrB wb pr X) (hs:X.heap[sb]?=some (.cells (l.map strV).toArray 9 (0,0))) (hne:sb≠wb) (hl:l.length<=10) (hlen:pr.text.length+catL l<=1000000) :
  Calls Tryz.prog 95 #[At0 wb,.slice (some ⟨sb,0,none⟩) l.length l.length] X fun e Y=>e = .returned (zcp [])/\PrB wb (putL pr l) Y/\PrS wb X Y:=by
 refine cofE 22 [At0 wb,.slice (some ⟨sb,0,none⟩) l.length l.length] Tryz.func95 ?_;obtain⟨R,hR⟩:=nm (putL pr l);rw [<- hR];refine⟨Nat×Pr,fun y=>⟨[(0,At0 wb),(6,.slice (some ⟨sb,0,none⟩) l.length l.length),(7,i64 (l.length:Nat)),(8,.int .i64 (y.1:Nat))],[]⟩,fun y Y=>PrB wb y.2 Y/\PrS wb X Y/\y.1<=l.length/\R=putL y.2 (l.drop y.1)/\y.2.text.length+catL (l.drop y.1)<=1000000,fun y=>l.length-y.1,(0,pr),(cvE rfl rfl),⟨h,.refl,Jh _,hR,hlen⟩,?_⟩;clear hR hlen h;rintro⟨i,pr⟩ Y ⟨hY,sY,hi,hR,hlen⟩;dsimp only at hY hi hR hlen ⊢;have hsY:=(sY.block sb _ _ hne (by decide) hs).trans hs;refine biE (fun hc=>?_) fun hc=>?_
 ·have hc:(i:Int)<(l.length:Int):=dT hc;have hil:i<l.length:=by omega
  refine⟨i,rfl,hil,?_⟩;have hcell:Y.cell? ⟨sb,0+i,none⟩=some (strV l[i]):=zac (zaa hsY) (by simp [hil]);refine⟨_,by rw [Jp];exact hcell,?_⟩;obtain⟨q,cap,f,ow⟩:=hY.f;have hwY:=hlt f;rw [znB l i hil] at hlen;refine⟨_,zac (zaa f) (i:=0) rfl,zrr Tryz.underlying72 Tryz.underlying9 k5 rfl rfl rfl ow l[i] (by omega) (by omega) fun q2 c2 V oV gV=>?_⟩;have hwV:(Value.slice q pr.text.length cap).ownBlock≠some wb:=fun e=>by
   have:=(World.ownsRow.lt ow wb e).1;omega
  have fV:V.heap[wb]?=some (.cells #[.slice q pr.text.length cap,i64 (pr.deep:Nat),i64 (pr.most:Nat)] 113 (0,0)):=(gV.block wb hwY hwV.symm).trans f;refine zaq k72 fV (o:=0) (v := .slice q2 (pr.text++l[i]).length c2) rfl rfl (by show 0<3;decide) rfl fun Z fZ gZ _=>?_;have lowV:∀ j,j<=wb->V.heap[j]?=Y.heap[j]?:=fun j hj=>gV.block j (by omega) fun e=>by
   have:=(World.ownsRow.lt ow j e.symm).1;omega
  have sV:PrS wb Y V:=⟨gV.os,gV.tape,gV.output,gV.size,fun j hj=>lowV j (by omega),fun j cs t hn ht hc=>gV.block j (hlt hc) fun e=>by
   rcases q with _ | a
   ·simp [Value.ownBlock] at e
   ·rcases ow.inv with ⟨h0,_⟩ | ⟨gg,cur,h0,_,hg,_⟩
    ·cases h0
    ·cases h0
     simp [Value.ownBlock] at e;subst e;rw [hg] at hc;simp only [Jf,Obj.cells.injEq] at hc;exact ht hc.2.1.symm⟩
  have hV:GlobK V:=⟨zaB (lowV _ (by have:=hY.og;exact Nat.le_of_lt (Nat.lt_of_le_of_lt (by decide) this))) hY.glob.op,zaB (lowV _ (by have:=hY.og;exact Nat.le_of_lt (Nat.lt_of_le_of_lt (by decide) this))) hY.glob.st,zaB (lowV _ (by have:=hY.og;exact Nat.le_of_lt (Nat.lt_of_le_of_lt (by decide) this))) hY.glob.sg,zaB (lowV _ (by have:=hY.og;exact Nat.le_of_lt (Nat.lt_of_le_of_lt (by decide) this))) hY.glob.nd,nL hY.glob.lt gV.size⟩;have hwsz:wb<=V.heap.size:=by have:=gV.size;omega
  refine nxI (by omega) ⟨(i+1,putW pr l[i]),(cvE rfl rfl),⟨⟨⟨q2,c2,fZ,oV.kept gZ fun gg hg e=>by have h5:wb+1<=gg:=(zau oV hg).1;simp at e;omega⟩,hY.og,hV.grown hY.og gZ⟩,sY.trans (sV.trans (.of_grown gZ hwsz)),hil,?_,?_⟩,by dsimp only;omega⟩
  ·rw [hR,JH hil];rfl
  ·dsimp only;rw [za1];omega
 ·have hc:¬ (i:Int)<(l.length:Int):=dF hc;rw [JI (by omega)] at hR;exact⟨rfl,by rw [hR];exact hY,sY⟩
theorem zcX {l:List Bs} {n:Nat} (h:PrB wb pr X) (hn:l.length=n) (hl:l.length<=10) (hlen:pr.text.length+catL l<=1000000) :
  Calls Tryz.prog 95 #[At0 wb,.slice (some ⟨X.heap.size,0,none⟩) n n] (X.alloc (.cells (l.map strV).toArray 9)) fun e Y=>e = .returned (zcp [])/\PrB wb (putL pr l) Y/\PrS wb X Y:=by
 subst hn;have hw:=h.lt;refine cmo (zr3 (h.below (zba _ _)) (hnew X _) (by omega) hl hlen) ?_;rintro e Y ⟨he,hY,sY⟩;exact⟨he,hY,(PrS.of_below (zba X _) (by omega)).trans sY⟩
structure PrX (w:World) (wb tb:Nat) (t:Trm) (q:Option Addr) (cap:Nat) (pr:Pr) (X:World):Prop where
 p:PrB wb pr X
 x:X.heap[tb]?=some (.cells (zad t q cap).toArray 24 (0,0))
 k:KidsT (fun b=>b<wb) X q t.kids
 o:PrS wb w X
 ne:tb≠wb
theorem PrX.step {t:Trm} {q:Option Addr} {cap:Nat} (h:PrX w wb tb t q cap pr X) (hY:PrB wb pr2 Y) (s:PrS wb X Y):PrX w wb tb t q cap pr2 Y :=
 ⟨hY,(s.block tb _ _ h.ne (by decide) h.x).trans h.x,h.k.by fun b cs ty fr hb hc=>s.low b hb,h.o.trans s,h.ne⟩
def PrC (wb:Nat) (t:Trm):Prop:=∀ (pr:Pr) (q:Option Addr) (cap:Nat) (X:World),PrB wb pr X->KidsT (fun b=>b<wb) X q t.kids->pr.text.length+40*nodesT t<=900000->pr.deep+nodesT t<=1000->pr.most<=1000 ->
 Calls Tryz.prog 50 #[At0 wb,.agg (zad t q cap).toArray] X fun e Y=>e = .returned (zcp [])/\PrB wb (prT pr t) Y/\PrS wb X Y
theorem zjm {t:Trm} (hv:VT t) (hT:PrC wb t) {least:Nat} (hl6:least<=6) {q:Option Addr} {cap:Nat} (r:List Trm) (h:PrB wb pr w) (hk:KidsT (fun b=>b<wb) w q t.kids) (hlen:pr.text.length+40*nodesT t+8<=900000) (hd:pr.deep+nodesT t+1<=1000) (hm:pr.most<=1000) :
  Calls Tryz.prog 96 #[At0 wb,.agg (zad t q cap).toArray,i64 (least:Nat)] w fun e Y=>e = .returned (zcp [])/\PrB wb (prHead pr least (t::r)) Y/\PrS wb w Y:=by
 refine cofM 56 [At0 wb,.agg (zad t q cap).toArray,i64 (least:Nat)] (.c .p (.s .p (.c .p (.c .p (.c .p (.c .p (.c .p (.c .p .p)))))))) Tryz.func96 ?_;have hw:=h.lt;obtain⟨R,hR⟩:=nm (prHead pr least (t::r));rw [<- hR];rw [prHead] at hR;have hk10:t.kind.toNat<10:=by cases hv;assumption
 refine⟨Unit,fun _=>⟨[(0,At0 wb),(2,i64 (least:Nat)),(4,At0 w.heap.size)],[]⟩,fun _ X=>PrX w wb w.heap.size t q cap pr X,⟨(),(cvE rfl rfl),h.below (zba _ _),hnew w _,hk.kept (zba _ _),.of_below (zba _ _) (by omega),by omega⟩,?_⟩;rintro _ X hX;refine⟨_,zac (zaa hX.x) (i:=0) rfl,t.kind.toNat,rfl,by omega,?_⟩;refine⟨_,by rw [Jp];exact zcB hX.p.glob hk10,?_⟩;have es:strL.getD t.kind.toNat 0=strN t.kind.toNat:=by
  have:∀ j:Fin 10,strL.getD j.1 0=strN j.1:=by decide
  exact this ⟨_,hk10⟩
 refine⟨Unit,fun _=>⟨[(0,At0 wb),(4,At0 w.heap.size)],[]⟩,fun _ Y=>X=Y/\¬ (strN t.kind.toNat=0\/strN t.kind.toNat ≥ least),?_,?_⟩
 ·have good:(strN t.kind.toNat=0\/strN t.kind.toNat ≥ least)->∃ us:List Value,us.length=3/\zav X ⟨w.heap.size,0,none⟩ us/\w.heap.size<X.heap.size/\Calls Tryz.prog 50 #[At0 wb,.agg us.toArray] X fun e Y=>e = .returned (zcp [])/\PrB wb R Y/\PrS wb w Y:=fun hc=>by
   rw [Kc hc] at hR;refine⟨_,rfl,zaa hX.x,hlt hX.x,cmo (hT pr q cap X hX.p hX.k (by omega) (by omega) (by omega)) ?_⟩;rintro e Y ⟨rfl,hY,sY⟩;exact⟨rfl,by rw [hR];exact hY,hX.o.trans sY⟩
  rw [<- es] at good ⊢;refine biE (fun h1=>?_) fun h1=>?_
  ·have h1:((strL.getD t.kind.toNat 0:Nat):Int)=0:=dT h1;refine brT ?_;obtain⟨us,u1,u2,u3,u4⟩:=good (.inl (by omega));refine⟨us,u1,u2,u3,cmo u4 ?_⟩;rintro e Y ⟨rfl,hY,sY⟩;exact⟨rfl,hY,sY⟩
  have h1:¬ ((strL.getD t.kind.toNat 0:Nat):Int)=0:=dF h1;refine biE (fun h2=>?_) fun h2=>?_
  ·have h2:(least:Int)<=((strL.getD t.kind.toNat 0:Nat):Int):=dT h2;obtain⟨us,u1,u2,u3,u4⟩:=good (.inr (by omega));refine⟨us,u1,u2,u3,cmo u4 ?_⟩;rintro e Y ⟨rfl,hY,sY⟩;exact⟨rfl,hY,sY⟩
  ·have h2:¬ (least:Int)<=((strL.getD t.kind.toNat 0:Nat):Int):=dF h2;exact⟨(),(cvE rfl rfl),rfl,by rintro (h | h) <;> omega⟩
 rintro _ _ ⟨rfl,hno⟩;rw [JZ hno] at hR;refine⟨Unit,fun _=>⟨[(0,At0 wb),(4,At0 w.heap.size)],[]⟩,fun _ Y=>PrX w wb w.heap.size t q cap { pr with deep:=pr.deep+1 } Y,?_,?_⟩
 ·obtain⟨_,_,f,_⟩:=hX.p.f;exact⟨_,zac (zaa f) (i:=1) rfl,((pr.deep+1:Nat):Int),(zaj (by omega)).trans (by omega),hX.p.num (deep:=pr.deep+1) (most:=pr.most) (.inl ⟨rfl,rfl,rfl⟩) fun Y hY sY=>⟨(),(cvE rfl rfl),hX.step hY sY⟩⟩
 clear hX X;rintro _ X hX;refine⟨Unit,fun _=>⟨[(0,At0 wb),(4,At0 w.heap.size)],[]⟩,fun _ Y=>PrX w wb w.heap.size t q cap { pr with deep:=pr.deep+1,most:=max pr.most (pr.deep+1) } Y,?_,?_⟩
 ·refine DrawE.ord [12] [0,1,2,3,4,5,6,7,8,9,10,11,12] (by kernel_rfl) ?_;have bD:=(Ja X.heap.size X).drew;have hD:=hX.step (hX.p.below bD) (.of_below bD (Nat.le_of_lt hX.p.lt));obtain⟨_,_,f,_⟩:=hD.p.f;refine⟨_,zac (zaa f) (i:=2) rfl,?_⟩;refine⟨_,zac (zaa f) (i:=1) rfl,?_⟩;refine zoK ?_;have emax:(if ((pr.most:Nat):Int)<((pr.deep+1:Nat):Int) then ((pr.deep+1:Nat):Int) else ((pr.most:Nat):Int))=((max pr.most (pr.deep+1):Nat):Int):=by split <;> omega
  exact⟨Ja _ _,hD.p.num (deep:=pr.deep+1) (most:=max pr.most (pr.deep+1)) (.inr ⟨rfl,congrArg (Value.int .i64) emax,rfl⟩) fun Y hY sY=>⟨(),(cvE rfl rfl),hD.step hY sY⟩⟩
 clear hX X;rintro _ X hX;obtain⟨p2,hp2⟩:∃ p2:Pr,p2=putW { pr with deep:=pr.deep+1,most:=max pr.most (pr.deep+1) } [40]:=⟨_,rfl⟩;rw [<- hp2] at hR;have t2:p2.text.length=pr.text.length+1:=by rw [hp2,za1];rfl
 have d2:p2.deep=pr.deep+1:=by rw [hp2];rfl
 have m2:p2.most=max pr.most (pr.deep+1):=by rw [hp2];rfl
 have npos:=zf3 t;refine⟨Unit,fun _=>⟨[(0,At0 wb),(4,At0 w.heap.size)],[]⟩,fun _ Y=>PrX w wb w.heap.size t q cap p2 Y,?_,?_⟩
 ·refine⟨⟨by decide,by decide,rfl⟩,[strV [40]],rfl,cmo (zcX (l:=[[40]]) hX.p rfl (by decide) (by show pr.text.length+(1+0)<=_;omega)) ?_⟩;rintro e Y ⟨rfl,hY,sY⟩;rw [hp2];exact⟨(),(cvE rfl rfl),hX.step hY sY⟩
 clear hX X;rintro _ X hX;have hle:=zec t hv p2;refine⟨Unit,fun _=>⟨[(0,At0 wb),(4,At0 w.heap.size)],[]⟩,fun _ Y=>PrX w wb w.heap.size t q cap (prT p2 t) Y,?_,?_⟩
 ·refine⟨_,rfl,zaa hX.x,hlt hX.x,cmo (hT p2 q cap X hX.p hX.k (by omega) (by omega) (by omega)) ?_⟩;rintro e Y ⟨rfl,hY,sY⟩;exact⟨(),(cvE rfl rfl),hX.step hY sY⟩
 clear hX X;rintro _ X hX;obtain⟨l1,l2,l3,l4⟩:=hle;refine⟨Unit,fun _=>⟨[(0,At0 wb),(4,At0 w.heap.size)],[]⟩,fun _ Y=>PrX w wb w.heap.size t q cap (putW (prT p2 t) [41]) Y,?_,?_⟩
 ·refine⟨⟨by decide,by decide,rfl⟩,[strV [41]],rfl,cmo (zcX (l:=[[41]]) hX.p rfl (by decide) (by show (prT p2 t).text.length+(1+0)<=_;omega)) ?_⟩;rintro e Y ⟨rfl,hY,sY⟩;exact⟨(),(cvE rfl rfl),hX.step hY sY⟩
 clear hX X;rintro _ X hX;obtain⟨_,_,f,_⟩:=hX.p.f;refine⟨_,zac (zaa f) (i:=1) rfl,?_⟩;have e1:(putW (prT p2 t) [41]).deep=(prT p2 t).deep:=rfl;exact⟨(((prT p2 t).deep-1:Nat):Int),(zaj (by rw [e1];omega)).trans (by rw [e1];omega),hX.p.num (deep:=(prT p2 t).deep-1) (most:=(putW (prT p2 t) [41]).most) (.inl ⟨rfl,rfl,rfl⟩) fun Y hY sY=>⟨rfl,by rw [hR];exact hY,hX.o.trans sY⟩⟩
end
section
variable {wb tb:Nat} {pr pr2:Pr} {w X Y Z:World}
theorem PrX.kid {t:Trm} {q:Option Addr} {cap:Nat} (h:PrX w wb tb t q cap pr X) {i:Nat} (hi:i<t.kids.length) :
  ∃ b o q2 c2,q=some ⟨b,o,none⟩/\zav X ⟨b,o+i*3,none⟩ (zad t.kids[i] q2 c2)/\b<X.heap.size/\KidsT (fun b=>b<wb) X q2 t.kids[i].kids:=by
 obtain⟨_,b,o,hq,hcl⟩:=h.k.inv;obtain⟨q2,c2,_,_,hc,hk⟩:=hcl i hi;refine⟨b,o,q2,c2,by rcases hq with h | h;omega;exact h,hc,?_,hk⟩;have h0:=hc 0 _ rfl;unfold World.cell? at h0
 split at h0
 ·rename_i hb;exact hlt hb
 ·cases h0
theorem zp0 {α:Type} {l:List α} (h:l.length=2):l=[l[0],l[1]]:=by
 match l,h with
 | [a,b],_=>rfl
theorem zqn {α:Type} {l:List α} (h:l.length=1):l=[l[0]]:=by
 match l,h with
 | [a],_=>rfl
theorem zmL {l:List Trm} (h:l.length=2):nodesK l=nodesT l[0]+nodesT l[1]:=by
 match l,h with
 | [a,b],_=>rw [nodesK,nodesK,nodesK];rfl
theorem zmM {l:List Trm} (h:l.length=1):nodesK l=nodesT l[0]:=by
 match l,h with
 | [a],_=>rw [nodesK,nodesK];rfl
theorem zr4 {k:UInt8} {nq:Bs} {kids:List Trm} (hv:VT (.mk k nq kids)) (ih:∀ x∈kids,PrC wb x):PrC wb (.mk k nq kids):=by
 intro pr q cap w h hkd hlen hdp hms;refine cofM 67 [At0 wb,.agg (zad (.mk k nq kids) q cap).toArray] (.c .p (.s .p (.b (.s .p (.d .p (.s .p (.d .p (.c .p (.d (.c .p .p) (.c .p (.c .p (.c .p .p)))))))))))) Tryz.func50 ?_;obtain⟨hk10,hkl,hnl,hkv⟩:=hv.inv;have hle0:=zec _ hv pr;obtain⟨R,hR⟩:=nm (prT pr (.mk k nq kids));rw [<- hR] at hle0 ⊢;rw [prT] at hR;rw [nodesT] at hlen hdp;have hw:=h.lt;have nk:∀ m:UInt8,decide ((k.toNat:Int)=(m.toNat:Int))=decide (k=m):=fun m=>zbq k m;refine⟨Unit,fun _=>⟨[(0,At0 wb),(3,At0 w.heap.size)],[]⟩,fun _ X=>PrX w wb w.heap.size (.mk k nq kids) q cap pr X,⟨(),(cvE rfl rfl),h.below (zba _ _),hnew w _,hkd.kept (zba _ _),.of_below (zba _ _) (by omega),by omega⟩,?_⟩;rintro _ X hX;refine⟨_,zac (zaa hX.x) (i:=0) rfl,biE (fun h1=>?_) fun h1=>?_⟩
 ·have h1:k=1:=dT ((nk 1).symm.trans h1);rw [Kc h1] at hR;refine⟨_,zac (zaa hX.x) (i:=1) rfl,⟨by decide,by decide,rfl⟩,[strV nq],rfl,cmo (zcX (l:=[nq]) hX.p rfl (by show 1<=10;decide) (by show pr.text.length+(nq.length+0)<=_;omega)) ?_⟩;rintro e Y ⟨rfl,hY,sY⟩;exact⟨rfl,by rw [hR];exact hY,hX.o.trans sY⟩
 have h1:k≠1:=dF ((nk 1).symm.trans h1);rw [JZ h1] at hR;refine biE (fun h9=>?_) fun h9=>?_
 ·have h9:k=9:=dT ((nk 9).symm.trans h9);rw [Kc h9] at hR;refine⟨_,zac (zaa hX.x) (i:=1) rfl,⟨by decide,by decide,rfl⟩,[strV [91],strV nq,strV [93]],rfl,cmo (zcX (l:=[[91],nq,[93]]) hX.p rfl (by show 3<=10;decide) (by show pr.text.length+(1+(nq.length+(1+0)))<=_;omega)) ?_⟩;rintro e Y ⟨rfl,hY,sY⟩;exact⟨rfl,by rw [hR];exact hY,hX.o.trans sY⟩
 have h9:k≠9:=dF ((nk 9).symm.trans h9);rw [JZ h9] at hR;refine⟨Bool,fun b=>⟨[(0,At0 wb),(3,At0 w.heap.size),(47,.bool b)],[]⟩,fun b Y=>X=Y/\(b=true->k=6\/k=7\/k=8)/\(b=false->¬ (k=6\/k=7\/k=8)),?_,?_⟩
 ·refine biE (fun h6=>?_) fun h6=>?_
  ·have h6':k=6:=dT ((nk 6).symm.trans h6);exact⟨true,⟨.cons rfl (.cons rfl (.cons (congrArg (fun b=>some (Value.bool b)) h6) .nil)),rfl⟩,rfl,fun _ => .inl h6',fun h=>Kv h (by decide)⟩
  have h6':k≠6:=dF ((nk 6).symm.trans h6);refine biE (fun h7=>?_) fun h7=>?_
  ·have h7':k=7:=dT ((nk 7).symm.trans h7);exact⟨true,⟨.cons rfl (.cons rfl (.cons (congrArg (fun b=>some (Value.bool b)) h7) .nil)),rfl⟩,rfl,fun _ => .inr (.inl h7'),fun h=>Kv h (by decide)⟩
  have h7':k≠7:=dF ((nk 7).symm.trans h7);refine⟨decide (k=8),⟨.cons rfl (.cons rfl (.cons (congrArg (fun b=>some (Value.bool b)) (nk 8)) .nil)),rfl⟩,rfl,fun h => .inr (.inr (dT h)),fun h=>?_⟩;have h:=dF h;rintro (e | e | e)
  ·exact h6' e
  ·exact h7' e
  ·exact h e
 rintro b _ ⟨rfl,hbt,hbf⟩;refine biE (fun hb=>?_) fun hb=>?_
 ·
  have h68:=hbt hb;rw [Kc h68] at hR;have hl1:kids.length=1:=by
   rcases h68 with rfl | rfl | rfl
   all_goals
    have:(kids.length:Int)=1:=hkl;omega
  have hk0:0<(Trm.mk k nq kids).kids.length:=by show 0<kids.length;omega
  obtain⟨bk,o,q2,c2,rfl,hc,hbs,hk2⟩:=hX.kid hk0;have hc:zav X ⟨bk,o+0*3,none⟩ (zad kids[0] q2 c2):=hc;have hk2:KidsT (fun b=>b<wb) X q2 kids[0].kids:=hk2;have em:=zqn hl1;have en:=zmM hl1;have hv0:=hkv kids[0] (gM _);have hh:prHead pr 5 kids=prHead pr 5 (kids[0]::[]):=congrArg (prHead pr 5) em;refine⟨Unit,fun _=>⟨[(0,At0 wb),(3,At0 w.heap.size)],[]⟩,fun _ Y=>PrX w wb w.heap.size (.mk k nq kids) (some ⟨bk,o,none⟩) cap (prHead pr 5 kids) Y,?_,?_⟩
  ·refine DrawE.ord [8] [0,1,2,3,4,5,6,7,8] (by kernel_rfl) ?_;have bD:=(Ja X.heap.size X).drew;have hD:=hX.step (hX.p.below bD) (.of_below bD (Nat.le_of_lt hX.p.lt));refine⟨_,zac (zaa hD.x) (i:=2) rfl,0,rfl,by show 0<kids.length;omega,?_⟩;refine⟨zad kids[0] q2 c2,rfl,zar bD hc,hbs,5,rfl,by decide,?_⟩;refine⟨_,zcB hD.p.glob (k:=5) (by decide),((5:Nat):Int),(zaj (by decide)).trans rfl,cmo (zjm hv0 (ih kids[0] (gM _)) (least:=5) (by decide) [] hD.p (hk2.kept bD) (by omega) (by omega) (by omega)) ?_⟩;rintro e Y ⟨rfl,hY,sY⟩;rw [<- hh] at hY;exact⟨(),(cvE rfl rfl),hD.step hY sY⟩
  clear hX hc hbs hk2;rintro _ Y hY;have hhl:=zgm (fun w=>zec kids[0] hv0 w) pr 5 [];rw [<- hh] at hhl;have hsl:=zfu k.toNat;refine⟨_,zac (zaa hY.x) (i:=0) rfl,k.toNat,rfl,by omega,?_⟩;refine⟨_,by rw [Jp];exact zhu hY.p.glob hk10,?_⟩;refine⟨⟨by decide,by decide,rfl⟩,[strV (zb1.getD k.toNat [])],rfl,cmo (zcX (l:=[zb1.getD k.toNat []]) hY.p rfl (by show 1<=10;decide) (by show (prHead pr 5 kids).text.length+((zhv k.toNat).length+0)<=_;omega)) ?_⟩;rintro e Z ⟨rfl,hZ,sZ⟩;exact⟨rfl,by rw [hR];exact hZ,hY.o.trans sZ⟩
 ·
  have h68:=hbf hb;rw [JZ h68] at hR;have hl2:kids.length=2/\2<=k.toNat/\k.toNat<=5:=by
   have key:∀ j:Fin 10,j.1≠1->j.1≠9->j.1≠6->j.1≠7->j.1≠8->zb7 j.1=2/\2<=j.1/\j.1<=5\/zb7 j.1 = -1:=by decide
   have nk:∀ (m:UInt8),k≠m->k.toNat≠m.toNat:=fun m h e=>h (Kh.1 e);rcases key ⟨k.toNat,hk10⟩ (nk 1 h1) (nk 9 h9) (nk 6 (fun e=>h68 (.inl e))) (nk 7 (fun e=>h68 (.inr (.inl e)))) (nk 8 (fun e=>h68 (.inr (.inr e)))) with h | h
   ·have h':zb7 k.toNat=2:=h.1;exact⟨by omega,h.2⟩
   ·have h:zb7 k.toNat = -1:=h;omega
  obtain⟨hl2,hk2',hk5⟩:=hl2;have es:strL.getD k.toNat 0=strN k.toNat/\strN k.toNat<=4:=by
   have:∀ j:Fin 10,strL.getD j.1 0=strN j.1/\strN j.1<=4:=by decide
   exact this ⟨_,hk10⟩
  obtain⟨es,es4⟩:=es;have em:=zp0 hl2;have en:=zmL hl2;have hv0:=hkv kids[0] (gM _);have hv1:=hkv kids[1] (gM _);obtain⟨n,hn⟩:=nm (strN k.toNat);rw [<- hn] at hR es es4;have hh:prHead pr n kids=prHead pr n (kids[0]::[kids[1]]):=congrArg (prHead pr n) em;have hhl:=zgm (fun w=>zec kids[0] hv0 w) pr n [kids[1]];rw [<- hh] at hhl;have hsl:=zfu k.toNat;obtain⟨a1,a2,a3,a4⟩:=hhl;refine⟨Unit,fun _=>⟨[(0,At0 wb),(3,At0 w.heap.size),(4,i64 (n:Nat))],[]⟩,fun _ Y=>X=Y,?_,?_⟩
  ·refine⟨_,zac (zaa hX.x) (i:=0) rfl,k.toNat,rfl,by omega,?_⟩;have hsa:=zcB hX.p.glob hk10;rw [es] at hsa;refine⟨_,by rw [Jp];exact hsa,?_⟩;exact⟨(),(cvE rfl rfl),rfl⟩
  rintro _ _ rfl;refine⟨Unit,fun _=>⟨[(0,At0 wb),(3,At0 w.heap.size),(4,i64 (n:Nat))],[]⟩,fun _ Y=>PrX w wb w.heap.size (.mk k nq kids) q cap (prHead pr n kids) Y,?_,?_⟩
  ·have hk0:0<(Trm.mk k nq kids).kids.length:=by show 0<kids.length;omega
   obtain⟨bk,o,q2,c2,rfl,hc,hbs,hk2⟩:=hX.kid hk0;have hc:zav X ⟨bk,o+0*3,none⟩ (zad kids[0] q2 c2):=hc;have hk2:KidsT (fun b=>b<wb) X q2 kids[0].kids:=hk2;refine⟨_,zac (zaa hX.x) (i:=2) rfl,0,rfl,by show 0<kids.length;omega,?_⟩;refine⟨zad kids[0] q2 c2,rfl,hc,hbs,cmo (zjm hv0 (ih kids[0] (gM _)) (least:=n) (by omega) [kids[1]] hX.p hk2 (by omega) (by omega) (by omega)) ?_⟩;rintro e Y ⟨rfl,hY,sY⟩;rw [<- hh] at hY;exact⟨(),(cvE rfl rfl),hX.step hY sY⟩
  clear hX;rintro _ Y hY;obtain⟨p3,hp3⟩:=nm (putW (putW (putW (prHead pr n kids) [32]) (zhv k.toNat)) [32]);rw [<- hp3] at hR;have t3:p3.text.length=(prHead pr n kids).text.length+1+(zhv k.toNat).length+1:=by rw [hp3,za1,za1,za1];rfl
  have d3:p3.deep=pr.deep:=by rw [hp3];exact a2
  have m3:p3.most=(prHead pr n kids).most:=by rw [hp3];rfl
  refine⟨Unit,fun _=>⟨[(0,At0 wb),(3,At0 w.heap.size),(4,i64 (n:Nat))],[]⟩,fun _ Y=>PrX w wb w.heap.size (.mk k nq kids) q cap p3 Y,?_,?_⟩
  ·refine⟨_,zac (zaa hY.x) (i:=0) rfl,k.toNat,rfl,by omega,?_⟩;refine⟨_,by rw [Jp];exact zhu hY.p.glob hk10,?_⟩;refine⟨⟨by decide,by decide,rfl⟩,[strV [32],strV (zb1.getD k.toNat []),strV [32]],rfl,cmo (zcX (l:=[[32],zb1.getD k.toNat [],[32]]) hY.p rfl (by show 3<=10;decide) (by show (prHead pr n kids).text.length+(1+((zhv k.toNat).length+(1+0)))<=_;omega)) ?_⟩;rintro e Z ⟨rfl,hZ,sZ⟩;have hZ:PrB wb p3 Z:=by rw [hp3];exact hZ
   exact⟨(),(cvE rfl rfl),hY.step hZ sZ⟩
  clear hY Y;rintro _ Y hY;have hk1:1<(Trm.mk k nq kids).kids.length:=by show 1<kids.length;omega
  obtain⟨bk,o,q2,c2,rfl,hc,hbs,hk2⟩:=hY.kid hk1;have hc:zav Y ⟨bk,o+1*3,none⟩ (zad kids[1] q2 c2):=hc;have hk2:KidsT (fun b=>b<wb) Y q2 kids[1].kids:=hk2;refine⟨_,zac (zaa hY.x) (i:=2) rfl,1,rfl,by show 1<kids.length;omega,?_⟩;refine⟨zad kids[1] q2 c2,rfl,hc,hbs,nxI (by omega) (cmo (zjm hv1 (ih kids[1] (gM _)) (least:=n+1) (by omega) [] hY.p hk2 (by omega) (by omega) (by omega)) ?_)⟩;rintro e Z ⟨rfl,hZ,sZ⟩;refine⟨rfl,?_,hY.o.trans sZ⟩;rw [hR,show prTail p3 (n+1) kids=prTail p3 (n+1) [kids[0],kids[1]] from congrArg (prTail p3 (n+1)) em,prTail];exact hZ
theorem zov:∀ t,VT t->PrC wb t
 | .mk k nq kids,hv=>zr4 hv fun x hx=>zov x (hv.inv.2.2.2 x hx)
end
end Go.Proofs.YtnadlhpkpnfmbaaGreatDoor
namespace Go.Proofs.YtnadlhpkpnfmbaaGreatDoor
open Go.Vc
def zdK:List LineD->Nat
 | []=>0
 | x::r=>nodesT x.term+zdK r
theorem zmO {s:Bs} (h:zeC s=true):s.length<=16:=by
 unfold zeC at h;rw [bAT,bAT] at h;exact dT h.2.1
theorem zoh {f:Bs->Bool} {nq:Bs} (h:∀ s,f s=true->s.length<=16) (hn:nq.length<=16):∀ s,setP f nq s=true->s.length<=16:=fun s hs=>by
 unfold setP at hs;rw [Kl] at hs;rcases hs with hs | hs
 ·rw [dT hs];exact hn
 ·exact h s hs
theorem zdq:∀ (ls:List LineD) (lets checks:Bs->Bool) (n:Nat) (lets':Bs->Bool),(∀ s,lets s=true->s.length<=16)->n<=400->zaK lets checks n ls=(true,lets') ->
  (∀ x∈ls,x.kind<=3/\x.name.length<=16/\VT x.term)/\n+zdK ls<=400/\(∀ s,lets' s=true->s.length<=16)
 | [],lets,checks,n,lets',hl,hn,h=>by
  rw [zaK] at h;refine⟨fun x hx=>?_,by rw [zdK];exact hn,?_⟩
  ·cases hx
  ·rw [<- (Prod.mk.inj h).2];exact hl
 | l::r,lets,checks,n,lets',hl,hn,h=>by
  rw [zaK] at h
  split at h
  ·cases h
  ·rename_i hc;have hk:l.kind<=3:=Classical.byContradiction fun h=>hc (.inl (by omega));have hnm:zeC l.name=true:=by
    cases hnb:zeC l.name with
    | true=>rfl
    | false=>exact Kv (.inr hnb) hc
   have hnl:=zmO hnm
   split at h
   ·cases h
   ·rename_i n2 e;obtain⟨hv,hn2⟩:=zeN lets hl l.term n n2 e;have hm:=(zfL lets n l.term).2 (by rw [e]);rw [e] at hm;have hm:n2<=400:=hm;have fin:∀ {a b:Bs->Bool},(∀ s,a s=true->s.length<=16)->zaK a b n2 r=(true,lets')->(∀ x∈l::r,x.kind<=3/\x.name.length<=16/\VT x.term)/\n+zdK (l::r)<=400/\(∀ s,lets' s=true->s.length<=16):=fun {a b} ha hr=>by
     obtain⟨i1,i2,i3⟩:=zdq r a b n2 lets' ha hm hr;refine⟨fun x hx=>?_,by rw [zdK];omega,i3⟩;rcases JV.1 hx with rfl | hx
     ·exact⟨hk,hnl,hv⟩
     ·exact i1 x hx
    split at h
    ·split at h
     ·cases h
     ·exact fin (zoh hl hnl) h
    ·split at h
     ·cases h
     ·exact fin hl h
end Go.Proofs.YtnadlhpkpnfmbaaGreatDoor
namespace Go.Proofs.YtnadlhpkpnfmbaaGreatDoor
open Go.Vc Go.RowKit Go.Sei
theorem zkq (k:Nat):(zaW.getD k []).length<=11:=by
 rcases Nat.lt_or_ge k 4 with h | h
 ·have:∀ j:Fin 4,(zaW.getD j.1 []).length<=11:=by decide
  exact this ⟨k,h⟩
 ·rw [gDe,Jo (by simpa [zaW] using h)];decide
theorem zmo {l:LineD} (hv:VT l.term) (hn:l.name.length<=16) (w:Pr):(zc3 w l).text.length<=w.text.length+24*nodesT l.term+60/\(zc3 w l).deep=w.deep/\(zc3 w l).most<=max w.most (w.deep+nodesT l.term):=by
 have ho:=zkq l.kind;unfold zc3;dsimp only
 split
 ·obtain⟨h1,h2,h3,h4⟩:=zec l.term hv (putW (putW (putW (putW w (zaW.getD l.kind [])) [32]) l.name) [32,61,32]);simp only [za1,Jq,JW] at h1 ⊢;exact⟨by omega,h2,h3⟩
 ·obtain⟨h1,h2,h3,h4⟩:=zec l.term hv (putW (putW w (zaW.getD l.kind [])) [32]);simp only [za1,Jq,JW] at h1 ⊢;exact⟨by omega,h2,h3⟩
section
variable {wb lb:Nat} {pr pr2:Pr} {w X Y Z:World}
structure PrL (w:World) (wb lb:Nat) (ln:LineD) (q:Option Addr) (cap:Nat) (pr:Pr) (X:World):Prop where
 p:PrB wb pr X
 x:X.heap[lb]?=some (.cells (zas ln.kind ln.name ln.term q cap).toArray 49 (0,0))
 k:KidsT (fun b=>b<wb) X q ln.term.kids
 o:PrS wb w X
 ne:lb≠wb
theorem PrL.step {x:LineD} {q:Option Addr} {cap:Nat} (h:PrL w wb lb x q cap pr X) (hY:PrB wb pr2 Y) (s:PrS wb X Y):PrL w wb lb x q cap pr2 Y :=
 ⟨hY,(s.block lb _ _ h.ne (by decide) h.x).trans h.x,h.k.by fun b cs ty fr hb hc=>s.low b hb,h.o.trans s,h.ne⟩
theorem zmD (hg:GlobK w) {k:Nat} (hk:k<=3):w.cell? ⟨3,0+k,none⟩=some (strV (zaW.getD k [])):=by
 refine zac hg.op ?_;have hk:k<zaW.length:=by show k<4;omega
 rw [Jm,gE hk,gDe,gE hk];rfl
theorem zow {x:LineD} (hv:VT x.term) (hn:x.name.length<=16) (hk3:x.kind<=3) {q:Option Addr} {cap:Nat} (h:PrB wb pr w) (hk:KidsT (fun b=>b<wb) w q x.term.kids) (hlen:pr.text.length+40*nodesT x.term+100<=900000) (hd:pr.deep+nodesT x.term<=1000) (hm:pr.most<=1000) :
  Calls Tryz.prog 92 #[At0 wb,.agg (zas x.kind x.name x.term q cap).toArray] w fun e Y=>e = .returned (zcp [])/\PrB wb (zc3 pr x) Y/\PrS wb w Y:=by
 refine cofM 35 [At0 wb,.agg (zas x.kind x.name x.term q cap).toArray] (.c .p (.c .p (.c (.s .p (.d (.c .p .p) (.c .p .p))) .p))) Tryz.func92 ?_;have hw:=h.lt;have hol:=zkq x.kind;obtain⟨R,hR⟩:=nm (zc3 pr x);rw [<- hR];unfold zc3 at hR;dsimp only at hR;refine⟨Unit,fun _=>⟨[(0,At0 wb),(3,At0 w.heap.size)],[]⟩,fun _ X=>PrL w wb w.heap.size x q cap pr X,⟨(),(cvE rfl rfl),h.below (zba _ _),hnew w _,hk.kept (zba _ _),.of_below (zba _ _) (by omega),by omega⟩,?_⟩;rintro _ X hX;obtain⟨p1,hp1⟩:=nm (putW (putW pr (zaW.getD x.kind [])) [32]);rw [<- hp1] at hR;have t1:p1.text.length=pr.text.length+(zaW.getD x.kind []).length+1:=by rw [hp1,za1,za1];rfl
 have d1:p1.deep=pr.deep:=by rw [hp1];rfl
 have m1:p1.most=pr.most:=by rw [hp1];rfl
 refine⟨Unit,fun _=>⟨[(0,At0 wb),(3,At0 w.heap.size)],[]⟩,fun _ X=>PrL w wb w.heap.size x q cap p1 X,?_,?_⟩
 ·refine⟨_,zac (zaa hX.x) (i:=0) rfl,x.kind,rfl,by omega,?_⟩;refine⟨_,by rw [Jp];exact zmD hX.p.glob hk3,?_⟩;refine⟨⟨by decide,by decide,rfl⟩,[strV (zaW.getD x.kind []),strV [32]],rfl,cmo (zcX (l:=[zaW.getD x.kind [],[32]]) hX.p rfl (by show 2<=10;decide) (by show pr.text.length+((zaW.getD x.kind []).length+(1+0))<=_;omega)) ?_⟩;rintro e Y ⟨rfl,hY,sY⟩;have hY:PrB wb p1 Y:=by rw [hp1];exact hY
  exact⟨(),(cvE rfl rfl),hX.step hY sY⟩
 clear hX X;rintro _ X hX;refine⟨Pr,fun _=>⟨[(0,At0 wb)],[]⟩,fun p2 X=>PrB wb p2 X/\PrS wb w X/\R=putW p2 [10]/\p2.text.length<=950000,?_,?_⟩
 ·have ht:∀ {Z:World} {pz:Pr},PrL w wb w.heap.size x q cap pz Z->zav Z ⟨w.heap.size,0+2,none⟩ (zad x.term q cap):=fun {Z pz} hZ=>za9 (o:=2) (n:=3) hZ.x;refine⟨_,zac (zaa hX.x) (i:=0) rfl,biE (fun h1=>?_) fun h1=>?_⟩
  ·have h1:(x.kind:Int)=0:=dT h1;rw [Kc (by omega)] at hR;obtain⟨p2,hp2⟩:=nm (putW (putW p1 x.name) [32,61,32]);rw [<- hp2] at hR;have t2:p2.text.length=p1.text.length+x.name.length+3:=by rw [hp2,za1,za1];rfl
   have d2:p2.deep=p1.deep:=by rw [hp2];rfl
   have m2:p2.most=p1.most:=by rw [hp2];rfl
   refine⟨Unit,fun _=>⟨[(0,At0 wb),(3,At0 w.heap.size)],[]⟩,fun _ X=>PrL w wb w.heap.size x q cap p2 X,?_,?_⟩
   ·refine⟨_,zac (zaa hX.x) (i:=1) rfl,⟨by decide,by decide,rfl⟩,[strV x.name,strV [32,61,32]],rfl,cmo (zcX (l:=[x.name,[32,61,32]]) hX.p rfl (by show 2<=10;decide) (by show p1.text.length+(x.name.length+(3+0))<=_;omega)) ?_⟩;rintro e Y ⟨rfl,hY,sY⟩;have hY:PrB wb p2 Y:=(by rw [hp2];exact hY);exact⟨(),(cvE rfl rfl),hX.step hY sY⟩
   clear hX X;rintro _ X hX;have hle:=zec x.term hv p2;refine⟨zad x.term q cap,rfl,ht hX,hlt hX.x,cmo (zov x.term hv p2 q cap X hX.p hX.k (by omega) (by omega) (by omega)) ?_⟩;rintro e Y ⟨rfl,hY,sY⟩;exact⟨prT p2 x.term,(cvE rfl rfl),hY,hX.o.trans sY,hR,by have:=hle.1;omega⟩
  ·have h1:¬ (x.kind:Int)=0:=dF h1;rw [JZ (by omega)] at hR;have hle:=zec x.term hv p1;refine⟨Unit,fun _=>⟨[(0,At0 wb),(3,At0 w.heap.size)],[]⟩,fun _ X=>PrL w wb w.heap.size x q cap (prT p1 x.term) X,?_,?_⟩
   ·refine⟨zad x.term q cap,rfl,ht hX,hlt hX.x,cmo (zov x.term hv p1 q cap X hX.p hX.k (by omega) (by omega) (by omega)) ?_⟩;rintro e Y ⟨rfl,hY,sY⟩;exact⟨(),(cvE rfl rfl),hX.step hY sY⟩
   clear hX X;rintro _ X hX;have l1:=hle.1;refine⟨_,zac (zaa hX.x) (i:=1) rfl,⟨by decide,by decide,rfl⟩,[strV [32,97,115,32],strV x.name],rfl,cmo (zcX (l:=[[32,97,115,32],x.name]) hX.p rfl (by show 2<=10;decide) (by show (prT p1 x.term).text.length+(4+(x.name.length+0))<=_;omega)) ?_⟩;rintro e Y ⟨rfl,hY,sY⟩;exact⟨putW (putW (prT p1 x.term) [32,97,115,32]) x.name,(cvE rfl rfl),hY,hX.o.trans sY,hR,by rw [za1,za1];show (prT p1 x.term).text.length+4+x.name.length<=_;omega⟩
 clear hX X;rintro p2 X ⟨hX,sX,hR,hl2⟩;refine⟨⟨by decide,by decide,rfl⟩,[strV [10]],rfl,cmo (zcX (l:=[[10]]) hX rfl (by decide) (by show p2.text.length+(1+0)<=_;omega)) ?_⟩;rintro e Y ⟨rfl,hY,sY⟩;exact⟨rfl,by rw [hR];exact hY,sX.trans sY⟩
def ExmR (r:Option (Bs×(Bs->Bool))) (w:World) (e:Ending) (w':World):Prop :=
 Bw w w'/\(r=none->e = .returned (.tuple #[strV [],.map none,.bool false]))/\∀ x,r=some x->∃ l,e = .returned (.tuple #[strV x.1,.map (some l),.bool true])/\MapF keyS w' l (mapB x.2)/\w.heap.size<=l
theorem PrS.below (h:PrS wb X Y) (hw:w.heap.size<=wb):Below w.heap.size X Y:=⟨h.os,h.tape,h.output,h.size,fun j hj=>h.low j (by omega)⟩
theorem zqP {ls:List LineD} {p:Option Addr} {cap:Nat} (hg:GlobK w) (hM:LinsM (fun _=>True) w p ls) (hlen:ls.length<=140737488351232) :
  Calls Tryz.prog 48 #[.agg #[.slice p ls.length cap]] w (ExmR (zbW ls) w):=by
 refine cofM 43 [.agg #[.slice p ls.length cap]] (.c .p (.c .p (.c .p (.c .p (.c (.s .p (.b (.l (.s .p (.s .p (.s (.b (.c .p .p)) .p)))))) (.c .p .p)))))) Tryz.func48 ?_;obtain⟨R,hR⟩:=nm (zbW ls);rw [<- hR];unfold zbW at hR;have hgl:=hg.lt;refine⟨Unit,fun _=>⟨[(1,At0 w.heap.size)],[]⟩,fun _ X=>X.heap[w.heap.size]?=some (.cells #[.slice p ls.length cap] 47 (0,0))/\Bw w X/\X.heap.size=w.heap.size+1,⟨(),(cvE rfl rfl),hnew w _,zba _ _,wz _ _⟩,?_⟩;rintro _ X ⟨f1,b1,n1⟩;refine⟨Unit,fun _=>⟨[(1,At0 w.heap.size),(5,At0 (w.heap.size+2))],[]⟩,fun _ X=>X.heap[w.heap.size]?=some (.cells #[.slice p ls.length cap] 47 (0,0))/\Bw w X/\ChkB (w.heap.size+2) (w.heap.size+1) (fun _=>false) 0 X,?_,?_⟩
 ·refine⟨Value.map (some X.heap.size),X.alloc (.map #[] 0),rfl,?_⟩;have m3:MapF (key:=keyS) (X.alloc (.map #[] 0)) X.heap.size (fun (_:Bs)=>none):=MapF.new;obtain⟨Y,e3⟩:=nm (X.alloc (.map #[] 0));have n3:Y.heap.size=w.heap.size+2:=by rw [e3,wz,n1]
  have b3:Bw X Y:=by rw [e3];exact zba _ _
  rw [<- e3] at m3 ⊢;refine⟨[.map (some X.heap.size),i64 0],rfl,?_⟩;have f5:=hnew Y (.cells #[.map (some X.heap.size),i64 0] 110);have b5:=zba Y (.cells #[.map (some X.heap.size),i64 0] 110);have bAll:=zst b1 (zst b3 b5);refine⟨(),⟨.cons rfl (.cons ?_ .nil),rfl⟩,?_⟩
  ·show some (At0 Y.heap.size)=_;rw [n3]
  show _/\_;rw [n3] at f5;rw [n1] at f5 b5 m3 bAll ⊢;exact⟨zab b5 (zab b3 f1),bAll,f5,m3.below b5,by omega,by omega,by omega,hg.below bAll⟩
 clear f1 b1 n1 X;rintro _ X ⟨f1,b1,hC⟩;have none_:∀ {Z:World},R=none->Bw w Z->ExmR R w (.returned (.tuple #[strV [],.map none,.bool false])) Z:=fun {Z} hR hb=>⟨hb,fun _=>rfl,fun x hx=>by rw [hR] at hx;cases hx⟩;refine⟨(Bs->Bool)×Nat,fun _=>⟨[(1,At0 w.heap.size),(5,At0 (w.heap.size+2))],[]⟩,fun y X=>X.heap[w.heap.size]?=some (.cells #[.slice p ls.length cap] 47 (0,0))/\Bw w X/\ChkB (w.heap.size+2) (w.heap.size+1) y.1 y.2 X/\ls.length<=40/\zaK (fun _=>false) (fun _=>false) 0 ls=(true,y.1),?_,?_⟩
 ·refine⟨_,zac (zaa f1) (i:=0) rfl,cmo (zqA (w0:=w) (cap:=cap) hM hlen hC (Jh _) b1 (by omega) (by omega)) ?_⟩;rintro e Y ⟨lets',m,rfl,hl,hY,oY,bY⟩;have fY:=(oY.block _ (hlt f1) (by omega) (by omega) (by omega)).trans f1;refine biE (fun h=>?_) fun h=>?_
  ·have h:(!(decide (ls.length<=40)&&(zaK (fun _=>false) (fun _=>false) 0 ls).1))=true:=h;refine none_ ?_ bY;rw [hR];by_cases h4:ls.length > 40
   ·rw [Kc h4]
   ·rw [JZ h4];rw [Ka (by omega),Js] at h;rcases hc:zaK (fun _=>false) (fun _=>false) 0 ls with ⟨b,lets⟩;rw [hc] at h
    cases b with
    | true=>cases h
    | false=>rfl
  ·have h:(!(decide (ls.length<=40)&&(zaK (fun _=>false) (fun _=>false) 0 ls).1))=false:=h;have h:(decide (ls.length<=40)&&(zaK (fun _=>false) (fun _=>false) 0 ls).1)=true:=by simpa using h
   rw [bAT,dE] at h;refine⟨(lets',m),(cvE rfl rfl),fY,bY,hY,h.1,?_⟩;rw [hl h.1 h.2,<- h.2]
 clear f1 b1 hC X;rintro⟨lets,m⟩ X ⟨f1,b1,hC,h40,hcl⟩;dsimp only at hC hcl ⊢;rw [JZ (by omega),hcl] at hR;dsimp only at hR;obtain⟨hval,hnod,hshort⟩:=zdq ls _ _ 0 lets (fun s h=>by cases h) (by decide) hcl;obtain⟨rows,hrl,hrow,hrk,_⟩:=hM;have hrn:rows.length=ls.length:=by rw [<- hrl,Jc]
 have hkb:=hC.lt;refine⟨Nat,fun wb=>⟨[(1,At0 w.heap.size),(5,At0 (w.heap.size+2)),(6,At0 wb)],[]⟩,fun wb X=>X.heap[w.heap.size]?=some (.cells #[.slice p ls.length cap] 47 (0,0))/\Bw w X/\ChkB (w.heap.size+2) (w.heap.size+1) lets m X/\PrB wb ⟨[],0,0⟩ X/\w.heap.size+2<wb,?_,?_⟩
 ·exact⟨X.heap.size,(cvE rfl rfl),zab (zba _ _) f1,b1.trans ((zba X _).mono b1.size),hC.below (zba _ _),⟨⟨none,0,hnew X _,.nil⟩,by omega,hC.glob.below (zba _ _)⟩,hkb⟩
 clear f1 b1 hC hkb X;rintro wb X ⟨f1,b1,hC,hP,hwb⟩;obtain⟨W,hW⟩:=nm (ls.foldl zc3 ⟨[],0,0⟩);rw [<- hW] at hR;refine⟨Unit,fun _=>⟨[(5,At0 (w.heap.size+2)),(6,At0 wb)],[]⟩,fun _ X=>Bw w X/\ChkB (w.heap.size+2) (w.heap.size+1) lets m X/\PrB wb W X,?_,?_⟩
 ·refine⟨_,zac (zaa f1) (i:=0) rfl,Nat×Pr,fun y=>⟨[(5,At0 (w.heap.size+2)),(6,At0 wb),(18,.slice p ls.length cap),(19,i64 (ls.length:Nat)),(20,.int .i64 (y.1:Nat))],[]⟩,fun y X=>Bw w X/\ChkB (w.heap.size+2) (w.heap.size+1) lets m X/\PrB wb y.2 X/\y.1<=ls.length/\W=(ls.drop y.1).foldl zc3 y.2/\y.2.text.length+24*zdK (ls.drop y.1)+60*(ls.length-y.1)<=13000/\y.2.deep=0/\y.2.most<=600,fun y=>ls.length-y.1,(0,⟨[],0,0⟩),(cvE rfl rfl),⟨b1,hC,hP,Jh _,hW,?_,rfl,Jh _⟩,?_⟩
  ·show 0+24*zdK ls+60*(ls.length-0)<=13000;omega
  clear f1 b1 hC hP hW X;rintro⟨i,pr⟩ X ⟨b1,hC,hP,hi,hW,hbd,hdp,hms⟩;dsimp only at hP hi hW hbd hdp hms ⊢;refine biE (fun hc=>?_) fun hc=>?_
  ·have hc:(i:Int)<(ls.length:Int):=dT hc;have hil:i<ls.length:=by omega
   have hir:i<rows.length:=by omega
   obtain⟨x,hx⟩:=nm (ls[i]);have hxr:rows[i].1=x:=by
    rw [hx];have:(rows.map (·.1))[i]?=ls[i]?:=(by rw [hrl]);rw [Jm,gE hir,gE hil] at this;exact Jg this
   have hdrop:ls.drop i=x::ls.drop (i+1):=by rw [hx];exact JH hil
   rw [hdrop] at hW hbd;rw [List.foldl_cons] at hW;rw [zdK] at hbd;obtain⟨v1,v2,v3⟩:=hval x (by rw [hx];exact gM hil);obtain⟨bk,o,hp,hbk,hcl2⟩:=hrow.at hir;subst hp;obtain⟨k1,k2,k3,k4⟩:=hrk rows[i] (gM hir);have hcell:zav w ⟨bk,o+i*5,none⟩ (zas rows[i].1.kind rows[i].1.name rows[i].1.term rows[i].2.1 rows[i].2.2):=hcl2 i hir;rw [hxr] at hcell k4;obtain⟨q,hq⟩:=nm (rows[i].2.1);obtain⟨cp,hcp⟩:=nm (rows[i].2.2);rw [<- hq,<- hcp] at hcell;rw [<- hq] at k4;have kd:KidsT (fun b=>b<w.heap.size) w q x.term.kids:=k4.there.weak fun b hb=>hb.2;refine⟨Nat,fun lb=>⟨[(5,At0 (w.heap.size+2)),(6,At0 wb),(8,At0 lb),(18,.slice (some ⟨bk,o,none⟩) ls.length cap),(19,i64 (ls.length:Nat)),(20,.int .i64 (i:Nat))],[]⟩,fun lb Y=>Bw w Y/\ChkB (w.heap.size+2) (w.heap.size+1) lets m Y/\PrB wb pr Y/\Y.heap[lb]?=some (.cells (zas x.kind x.name x.term q cp).toArray 49 (0,0)),?_,?_⟩
   ·exact⟨i,rfl,hil,zas x.kind x.name x.term q cp,rfl,zbb b1 hbk hcell,nL hbk b1.size,zak (X:=X) (v := .agg (zas x.kind x.name x.term q cp).toArray) k49 rfl rfl rfl fun Y hbY fY sY=>⟨X.heap.size,(cvE rfl rfl),(zst b1 hbY),hC.below hbY,hP.below hbY,fY⟩⟩
   clear b1 hC hP hcell X;rintro lb X ⟨b1,hC,hP,fx⟩;refine⟨_,rfl,zaa fx,hlt fx,?_⟩;have kX:KidsT (fun b=>b<wb) X q x.term.kids:=(kd.by fun b cs ty fr hb hc=>b1.block b hb).weak fun b hb=>by omega
   have hle:=zmo v3 v2 pr;refine cmo (zow v3 v2 v1 (cap:=cp) hP kX (by omega) (by omega) (by omega)) ?_;rintro e Y ⟨rfl,hY,sY⟩;refine nxI (by omega) ?_;have lw:∀ {j},j<wb->Y.heap[j]?=X.heap[j]?:=fun {j} hj=>sY.low j hj;refine⟨(i+1,zc3 pr x),(cvE rfl rfl),⟨b1.trans (sY.below (by omega)),⟨(lw (by omega)).trans hC.f,hC.lm.same (lw (by omega)),hC.ne,hC.og,hC.ol,hY.glob⟩,hY,hil,hW,by dsimp only;omega,by dsimp only;omega,by dsimp only;omega⟩,by dsimp only;omega⟩
  ·have hc:¬ (i:Int)<(ls.length:Int):=dF hc;rw [JI (by omega),List.foldl_nil] at hW;exact⟨(),(cvE rfl rfl),b1,hC,by rw [hW];exact hP⟩
 clear f1 b1 hC hP X;rintro _ X ⟨b1,hC,hP⟩;obtain⟨q,c2,f,ow⟩:=hP.f;refine⟨Unit,fun _=>⟨[(5,At0 (w.heap.size+2)),(6,At0 wb)],[]⟩,fun _ Y=>X=Y/\¬ (W.text.length > 8192\/W.most > 50),?_,?_⟩
 ·refine⟨_,zac (zaa f) (i:=0) rfl,biE (fun h=>?_) fun h=>?_⟩
  ·have h:(8192:Int)<(W.text.length:Int):=dT h;exact brT (none_ (by rw [hR,Kc (.inl (by omega))]) b1)
  have h:¬ (8192:Int)<(W.text.length:Int):=dF h;refine⟨_,zac (zaa f) (i:=2) rfl,biE (fun h2=>?_) fun h2=>?_⟩
  ·have h2:(50:Int)<(W.most:Int):=dT h2;exact none_ (by rw [hR,Kc (.inr (by omega))]) b1
  ·have h2:¬ (50:Int)<(W.most:Int):=dF h2;exact⟨(),(cvE rfl rfl),rfl,by rintro (h | h) <;> omega⟩
 rintro _ _ ⟨rfl,hno⟩;rw [JZ hno] at hR;refine DrawE.ord [] [0,1,2,3,4,5,6,7,8,9] (by kernel_rfl) ?_;have bD:=(Ja X.heap.size X).drew;have fD:=zab bD f;have hD:=hC.below bD;have oD:=ow.below bD;refine⟨_,zac (zaa fD) (i:=0) rfl,_,fun w2 hb=>zo7 oD.row w2 hb,_,zac (zaa hD.f) (i:=0) rfl,(zst b1 bD),(fun h=>by rw [hR] at h;cases h),fun x hx=>?_⟩;rw [hR] at hx;obtain rfl:=Jg hx;exact⟨w.heap.size+1,rfl,hD.lm,by omega⟩
end
section
variable {w:World} {ls:List LineD} {p:Option Addr} {cap:Nat}
theorem znR (hg:GlobK w) (hM:LinsM (fun _=>True) w p ls) (hlen:ls.length<=140737488351232) :
  CB 35 #[.agg #[.slice p ls.length cap]] w (.tuple #[strV (((zbW ls).map (·.1)).getD []),i64 (if (zbW ls).isSome then 0 else 2)]):=by
 refine cofM 16 [.agg #[.slice p ls.length cap]] (.c .p .p) Tryz.func35 ?_;refine⟨Unit,fun _=>⟨[(1,At0 w.heap.size)],[]⟩,fun _ X=>X.heap[w.heap.size]?=some (.cells #[.slice p ls.length cap] 47 (0,0))/\Bw w X,⟨(),(cvE rfl rfl),hnew w _,zba _ _⟩,?_⟩;rintro _ X ⟨f1,b1⟩;have hX:=hM.below b1;refine⟨_,rfl,zaa f1,hlt f1,cmo (zqP (cap:=cap) (hg.below b1) hX hlen) ?_⟩;rintro e Y ⟨bY,hno,hyes⟩;have b2:=zst b1 bY
 cases he:zbW ls with
 | none =>
  obtain rfl:=hno he;exact brT ⟨rfl,b2⟩
 | some x =>
  obtain⟨l,rfl,_,_⟩:=hyes x he;exact brF ⟨rfl,b2⟩
theorem zlC (hg:GlobK w) (hM:LinsM (fun _=>True) w p ls) (hlen:ls.length<=140737488351232) :
  CB 28 #[.agg #[.slice p ls.length cap]] w (.bool (zbW ls).isSome):=by
 refine cofM 13 [.agg #[.slice p ls.length cap]] (.c .p .p) Tryz.func28 ?_;refine⟨Unit,fun _=>⟨[(1,At0 w.heap.size)],[]⟩,fun _ X=>X.heap[w.heap.size]?=some (.cells #[.slice p ls.length cap] 47 (0,0))/\Bw w X,⟨(),(cvE rfl rfl),hnew w _,zba _ _⟩,?_⟩;rintro _ X ⟨f1,b1⟩;have hX:=hM.below b1;refine⟨_,rfl,zaa f1,hlt f1,cmo (zqP (cap:=cap) (hg.below b1) hX hlen) ?_⟩;rintro e Y ⟨bY,hno,hyes⟩;have b2:=zst b1 bY
 cases he:zbW ls with
 | none =>
  obtain rfl:=hno he;exact⟨rfl,b2⟩
 | some x =>
  obtain⟨l,rfl,_,_⟩:=hyes x he;exact⟨rfl,b2⟩
theorem zhy (hg:GlobK w) (s:Bs) (hs:s.length<=140737488351232):Calls Tryz.prog 45 #[strV s] w fun e w'=>∃ p cap,e = .returned (.agg #[.slice p ((zbe s).1.getD []).length cap])/\LinsM (fun b=>w.heap.size<=b) w' p ((zbe s).1.getD [])/\((zbe s).1.getD []).length<=40/\Bw w w':=by
 refine cofM 13 [strV s] (.c .p (.c .p .p)) Tryz.func45 ?_;refine⟨Unit,fun _=>⟨[(0,strV s),(2,At0 w.heap.size)],[]⟩,fun _ X=>X.heap[w.heap.size]?=some (.cells #[.slice none 0 0] 47 (0,0))/\Bw w X,⟨(),(cvE rfl rfl),hnew w _,zba _ _⟩,?_⟩;rintro _ X ⟨f1,b1⟩;refine⟨Nat×Option Addr×Nat,fun y=>⟨[(2,At0 w.heap.size),(3,At0 y.1)],[]⟩,fun y X=>X.heap[w.heap.size]?=some (.cells #[.slice none 0 0] 47 (0,0))/\X.heap[y.1]?=some (.cells #[.slice y.2.1 ((zbe s).1.getD []).length y.2.2] 47 (0,0))/\LinsM (fun b=>w.heap.size<b) X y.2.1 ((zbe s).1.getD [])/\((zbe s).1.getD []).length<=40/\Bw w X,?_,?_⟩
 ·refine cmo (znT (hg.below b1) s hs) ?_;rintro e Y ⟨⟨p,cap,rfl,h40,hM⟩,bY⟩;have fY:=zab bY f1;refine zak (X:=Y) (v := .agg #[.slice p ((zbe s).1.getD []).length cap]) k47 rfl rfl rfl fun Z hbZ fZ sZ=>?_;have h0:=hlt f1;have b2:=zst b1 bY;exact⟨(Y.heap.size,p,cap),(cvE rfl rfl),zab hbZ fY,fZ,(hM.below hbZ).weak fun b hb=>by omega,h40,(zst b2 hbZ)⟩
 clear f1 b1 X;rintro⟨tb,p,cap⟩ X ⟨f1,ft,hM,h40,b1⟩;dsimp only at ft hM ⊢;exact⟨_,rfl,zaa ft,hlt ft,zao (v := .agg #[.slice p ((zbe s).1.getD []).length cap]) k47 f1 rfl rfl rfl ⟨[.slice p ((zbe s).1.getD []).length cap],rfl,zaa (zal f1),p,cap,rfl,(hM.by fun b cs ty fr hb hc=>zam (by omega)).weak fun b hb=>by omega,h40,zah b1 (Jb _) _⟩⟩
theorem zjI (hg:GlobK w) (s:Bs) (hs:s.length<=140737488351232) (er:Int) (at_:Nat):CB 47 #[strV s,i64 er,i64 (at_:Nat)] w (.bool (decide ((zbe s).2.2=er)&&(decide ((zbe s).2.1=at_)&&decide ((zbe s).1.getD []=[])))):=by
 refine cofM 30 [strV s,i64 er,i64 (at_:Nat)] (.s .p (.c .p .p)) Tryz.func47 ?_;refine⟨Nat×Option Addr×Nat,fun y=>⟨[(1,i64 er),(2,i64 (at_:Nat)),(7,At0 y.1),(8,i64 ((zbe s).2.1:Nat)),(9,i64 (zbe s).2.2)],[]⟩,fun y X=>X.heap[y.1]?=some (.cells #[.slice y.2.1 ((zbe s).1.getD []).length y.2.2] 47 (0,0))/\Bw w X,?_,?_⟩
 ·refine cmo (znT hg s hs) ?_;rintro e Y ⟨⟨p,cap,rfl,h40,hM⟩,bY⟩;exact zak (X:=Y) (v := .agg #[.slice p ((zbe s).1.getD []).length cap]) k47 rfl rfl rfl fun Z hbZ fZ sZ=>⟨(Y.heap.size,p,cap),(cvE rfl rfl),fZ,(zst bY hbZ)⟩
 rintro⟨tb,p,cap⟩ X ⟨ft,b1⟩;dsimp only at ft ⊢;refine biE (fun h1=>?_) fun h1=>?_
 ·have h1:decide ((zbe s).2.2=er)=true:=h1;rw [h1,Js];refine biE (fun h2=>?_) fun h2=>?_
  ·have h2:decide ((zbe s).2.1=at_)=true:=zaF.symm.trans h2;rw [h2,Js];refine⟨_,zac (zaa ft) (i:=0) rfl,rb ?_,b1⟩;show decide ((((zbe s).1.getD []).length:Int)=0)=_;rw [Kd];constructor
   ·intro h;exact JS (by omega)
   ·intro h;rw [h];rfl
  ·have h2:decide ((zbe s).2.1=at_)=false:=zaF.symm.trans h2;exact⟨rb (by rw [h2];rfl),b1⟩
 ·have h1:decide ((zbe s).2.2=er)=false:=h1;exact brF ⟨rb (by rw [h1];rfl),b1⟩
end
mutual
def sameT:Trm->Trm->Bool
 | .mk k n l,.mk k2 n2 l2=>decide (k=k2)&&(decide (n=n2)&&(decide (l.length=l2.length)&&sameK l l2))
def sameK:List Trm->List Trm->Bool
 | [],_=>true
 | _::_,[]=>false
 | a::r,b::r2=>sameT a b&&sameK r r2
end
abbrev AllB:Nat->Prop:=fun _=>True
theorem KidsT.kid {Q:Nat->Prop} {w:World} {q:Option Addr} {l:List Trm} (h:KidsT Q w q l) {i:Nat} (hi:i<l.length) :
  ∃ b o q2 c2,q=some ⟨b,o,none⟩/\zav w ⟨b,o+i*3,none⟩ (zad l[i] q2 c2)/\b<w.heap.size/\l[i].name.length<=140737488351232/\KidsT Q w q2 l[i].kids:=by
 obtain⟨_,b,o,hq,hcl⟩:=h.inv;obtain⟨q2,c2,hn,_,hc,hk⟩:=hcl i hi;refine⟨b,o,q2,c2,by rcases hq with h | h;omega;exact h,hc,?_,hn,hk⟩;have h0:=hc 0 _ rfl;unfold World.cell? at h0
 split at h0
 ·rename_i hb;exact hlt hb
 ·cases h0
section
variable {w:World}
theorem zeB (s:Bs):CB 13 #[strV s] w (.agg (zad (.mk 1 s []) none 0).toArray):=by
 refine cofM 5 [strV s] (.c .p .p) Tryz.func13 ?_;refine⟨Unit,fun _=>⟨[(0,strV s),(2,At0 w.heap.size)],[]⟩,fun _ X=>X.heap[w.heap.size]?=some (.cells (zad zT none 0).toArray 24 (0,0))/\Bw w X,⟨(),(cvE rfl rfl),hnew w _,zba _ _⟩,?_⟩;rintro _ X ⟨f1,b1⟩;exact⟨zad (.mk 1 s []) none 0,rfl,zao (v := .agg (zad (.mk 1 s []) none 0).toArray) k24 f1 rfl rfl rfl ⟨zad (.mk 1 s []) none 0,rfl,zaa (zal f1),rfl,zah b1 (Jb _) _⟩⟩
theorem zn8 {k:UInt8} {a b:Trm} {q p:Option Addr} {c d:Nat} (hq:KidsT AllB w q a.kids) (hp:KidsT AllB w p b.kids) (ha:a.name.length<=140737488351232) (hb:b.name.length<=140737488351232) :
  Calls Tryz.prog 19 #[u8 k,.agg (zad a q c).toArray,.agg (zad b p d).toArray] w fun e w'=>∃ r,e = .returned (.agg (zad (.mk k [] [a,b]) r 2).toArray)/\KidsT AllB w' r [a,b]/\Bw w w':=by
 refine cofM 12 [u8 k,.agg (zad a q c).toArray,.agg (zad b p d).toArray] (.c .p .p) Tryz.func19 ?_;refine⟨Unit,fun _=>⟨[(0,u8 k),(4,At0 w.heap.size),(5,At0 (w.heap.size+1)),(6,At0 (w.heap.size+2))],[]⟩,fun _ X=>X.heap[w.heap.size]?=some (.cells (zad a q c).toArray 24 (0,0))/\X.heap[w.heap.size+1]?=some (.cells (zad b p d).toArray 24 (0,0))/\X.heap[w.heap.size+2]?=some (.cells (zad zT none 0).toArray 24 (0,0))/\Bw w X/\X.heap.size=w.heap.size+3,?_,?_⟩
 ·obtain⟨W1,e1⟩:=nm (w.alloc (.cells (zad a q c).toArray 24));have n1:W1.heap.size=w.heap.size+1:=by rw [e1];exact wz _ _
  have f1:W1.heap[w.heap.size]?=some (.cells (zad a q c).toArray 24 (0,0)):=by rw [e1];exact hnew w _
  have b1:Bw w W1:=by rw [e1];exact zba _ _
  obtain⟨W2,e2⟩:=nm (W1.alloc (.cells (zad b p d).toArray 24));have n2:W2.heap.size=w.heap.size+2:=by rw [e2,wz,n1]
  have f2:W2.heap[w.heap.size+1]?=some (.cells (zad b p d).toArray 24 (0,0)):=by rw [e2,<- n1];exact hnew W1 _
  have b2:Bw W1 W2:=by rw [e2];exact zba _ _
  obtain⟨W3,e3⟩:=nm (W2.alloc (.cells (zad zT none 0).toArray 24));have n3:W3.heap.size=w.heap.size+3:=by rw [e3,wz,n2]
  have f3:W3.heap[w.heap.size+2]?=some (.cells (zad zT none 0).toArray 24 (0,0)):=by rw [e3,<- n2];exact hnew W2 _
  have b3:Bw W2 W3:=by rw [e3];exact zba _ _
  refine⟨(),⟨.cons rfl (.cons ?_ (.cons ?_ (.cons ?_ .nil))),rfl⟩,?_⟩
  ·rfl
  ·show some (At0 (w.alloc (.cells (zad a q c).toArray 24)).heap.size)=_;rw [wz]
  ·show some (At0 ((w.alloc (.cells (zad a q c).toArray 24)).alloc (.cells (zad b p d).toArray 24)).heap.size)=_;rw [wz,wz]
  ·show _/\_;have key:W3.heap[w.heap.size]?=some (.cells (zad a q c).toArray 24 (0,0))/\W3.heap[w.heap.size+1]?=some (.cells (zad b p d).toArray 24 (0,0))/\W3.heap[w.heap.size+2]?=some (.cells (zad zT none 0).toArray 24 (0,0))/\Bw w W3/\W3.heap.size=w.heap.size+3:=⟨zab b3 (zab b2 f1),zab b3 f2,f3,zst b1 (zst b2 b3),n3⟩;rw [e3,e2,e1] at key;exact key
 rintro _ X ⟨f1,f2,f3,b1,n1⟩;refine⟨_,rfl,zaa f1,hlt f1,_,rfl,zaa f2,hlt f2,⟨by decide,by decide,rfl⟩,zad a q c++zad b p d,rfl,zad (.mk k [] [a,b]) (some ⟨X.heap.size,0,none⟩) 2,rfl,?_⟩;have bN:=zba X (.cells (zad a q c++zad b p d).toArray 24);have fN:=hnew X (.cells (zad a q c++zad b p d).toArray 24);have f3N:=zab bN f3;refine zao (v := .agg (zad (.mk k [] [a,b]) (some ⟨X.heap.size,0,none⟩) 2).toArray) k24 f3N rfl rfl rfl ?_;have b9:=zah (B:=w.heap.size) ((zst b1 bN)) (by omega:w.heap.size<=w.heap.size+2) (zad (.mk k [] [a,b]) (some ⟨X.heap.size,0,none⟩) 2).toArray;exact⟨zad (.mk k [] [a,b]) (some ⟨X.heap.size,0,none⟩) 2,rfl,zaa (zal f3N),some ⟨X.heap.size,0,none⟩,rfl,.two (q:=q) (cap:=c) (p:=p) (cp:=d) trivial (zaa ((zam (by omega)).trans fN)) ha (hq.kept b9) hb (hp.kept b9),b9⟩
structure TwoB (w:World) (a b:Trm) (q p:Option Addr) (c d:Nat) (X:World):Prop where
 x:X.heap[w.heap.size]?=some (.cells (zad a q c).toArray 24 (0,0))
 y:X.heap[w.heap.size+1]?=some (.cells (zad b p d).toArray 24 (0,0))
 k:KidsT AllB X q a.kids
 l:KidsT AllB X p b.kids
 b:Bw w X
theorem TwoB.below {a b:Trm} {q p:Option Addr} {c d:Nat} {X Y:World} (h:TwoB w a b q p c d X) (hb:Bw X Y):TwoB w a b q p c d Y :=
 ⟨zab hb h.x,zab hb h.y,h.k.kept hb,h.l.kept hb,h.b.trans (hb.mono h.b.size)⟩
def TerC (a b:Trm):Prop:=∀ (q p:Option Addr) (c d:Nat) (w:World),KidsT AllB w q a.kids->KidsT AllB w p b.kids->CB 78 #[.agg (zad a q c).toArray,.agg (zad b p d).toArray] w (.bool (sameT a b))
theorem zrQ {k k2:UInt8} {n n2:Bs} {l l2:List Trm} (ih:∀ x∈l,∀ y,TerC x y):TerC (.mk k n l) (.mk k2 n2 l2):=by
 intro q p c d w hq hp;refine cofM 46 [.agg (zad (.mk k n l) q c).toArray,.agg (zad (.mk k2 n2 l2) p d).toArray] (.c .p (.c .p .p)) Tryz.func78 ?_;refine⟨Unit,fun _=>⟨[(2,At0 w.heap.size),(3,At0 (w.heap.size+1))],[]⟩,fun _ X=>TwoB w (.mk k n l) (.mk k2 n2 l2) q p c d X,?_,?_⟩
 ·obtain⟨W1,e1⟩:=nm (w.alloc (.cells (zad (.mk k n l) q c).toArray 24));have n1:W1.heap.size=w.heap.size+1:=by rw [e1];exact wz _ _
  have f1:W1.heap[w.heap.size]?=some (.cells (zad (.mk k n l) q c).toArray 24 (0,0)):=by rw [e1];exact hnew w _
  have b1:Bw w W1:=by rw [e1];exact zba _ _
  obtain⟨W2,e2⟩:=nm (W1.alloc (.cells (zad (.mk k2 n2 l2) p d).toArray 24));have f2:W2.heap[w.heap.size+1]?=some (.cells (zad (.mk k2 n2 l2) p d).toArray 24 (0,0)):=by rw [e2,<- n1];exact hnew W1 _
  have b2:Bw W1 W2:=by rw [e2];exact zba _ _
  refine⟨(),⟨.cons rfl (.cons ?_ .nil),rfl⟩,?_⟩
  ·show some (At0 (w.alloc (.cells (zad (.mk k n l) q c).toArray 24)).heap.size)=_;rw [wz]
  ·have b12:=zst b1 b2;have key:TwoB w (.mk k n l) (.mk k2 n2 l2) q p c d W2:=⟨zab b2 f1,f2,hq.kept b12,hp.kept b12,b12⟩;rw [e2,e1] at key;exact key
 rintro _ X hX;have hl1:l.length<=140737488351232:=hq.inv.1;have hl2:l2.length<=140737488351232:=hp.inv.1;rw [sameT];refine⟨Unit,fun _=>⟨[(2,At0 w.heap.size),(3,At0 (w.heap.size+1))],[]⟩,fun _ Y=>X=Y/\k=k2/\n=n2/\l.length=l2.length,?_,?_⟩
 ·refine⟨_,zac (zaa hX.x) (i:=0) rfl,_,zac (zaa hX.y) (i:=0) rfl,biE (fun h1=>?_) fun h1=>?_⟩
  ·have h1:(!decide ((k.toNat:Int)=(k2.toNat:Int)))=true:=h1;rw [zbq] at h1;exact brT (brT ⟨rb (by rw [show decide (k=k2)=false by simpa using h1];rfl),hX.b⟩)
  have h1:(!decide ((k.toNat:Int)=(k2.toNat:Int)))=false:=h1;rw [zbq] at h1;have h1:k=k2:=by simpa using h1
  rw [Ka h1,Js];refine⟨_,zac (zaa hX.x) (i:=1) rfl,_,zac (zaa hX.y) (i:=1) rfl,_,fun w=>zf7 _ _ n n2 w,biE (fun h2=>?_) fun h2=>?_⟩
  ·have h2:(!decide (n=n2))=true:=h2;exact brT ⟨rb (by rw [show decide (n=n2)=false by simpa using h2];rfl),hX.b⟩
  have h2:(!decide (n=n2))=false:=h2;have h2:n=n2:=by simpa using h2
  rw [Ka h2,Js];refine⟨_,zac (zaa hX.x) (i:=2) rfl,_,zac (zaa hX.y) (i:=2) rfl,biE (fun h3=>?_) fun h3=>?_⟩
  ·have h3:(!decide ((l.length:Int)=(l2.length:Int)))=true:=h3;rw [zaF] at h3;exact⟨rb (by rw [show decide (l.length=l2.length)=false by simpa using h3];rfl),hX.b⟩
  ·have h3:(!decide ((l.length:Int)=(l2.length:Int)))=false:=h3;rw [zaF] at h3;exact⟨(),(cvE rfl rfl),rfl,h1,h2,by simpa using h3⟩
 rintro _ _ ⟨rfl,h1,h2,h3⟩;rw [Ka h1,Ka h2,Ka h3,Js,Js,Js];obtain⟨R,hR⟩:=nm (sameK l l2);rw [<- hR];refine⟨_,zac (zaa hX.x) (i:=2) rfl,Nat,fun i=>⟨[(2,At0 w.heap.size),(3,At0 (w.heap.size+1)),(28,.slice q l.length c),(29,i64 (l.length:Nat)),(30,.int .i64 (i:Nat))],[]⟩,fun i X=>TwoB w (.mk k n l) (.mk k2 n2 l2) q p c d X/\i<=l.length/\R=sameK (l.drop i) (l2.drop i),fun i=>l.length-i,0,(cvE rfl rfl),⟨hX,Jh _,hR⟩,?_⟩;clear hX hR X hq hp;rintro i X ⟨hX,hi,hR⟩;dsimp only at hi hR ⊢;refine biE (fun hc=>?_) fun hc=>?_
 ·have hc:(i:Int)<(l.length:Int):=dT hc;have hil:i<l.length:=by omega
  have hil2:i<l2.length:=by omega
  rw [JH hil,JH hil2,sameK] at hR;refine DrawE.ord [] [0,1,2,3,4,5,6,7,8,9,10,11] (by kernel_rfl) ?_;have hD:=hX.below (Ja X.heap.size X).drew;obtain⟨b1,o1,q1,c1,rfl,e1,s1,m1,k1⟩:=hD.k.kid (l:=l) hil;obtain⟨b2,o2,q2,c2,rfl,e2,s2,m2,k2'⟩:=hD.l.kid (l:=l2) hil2;refine⟨_,zac (zaa hD.x) (i:=2) rfl,i,rfl,hil,_,rfl,e1,s1,_,zac (zaa hD.y) (i:=2) rfl,i,rfl,hil2,_,rfl,e2,s2,cmo (ih l[i] (gM hil) l2[i] q1 q2 c1 c2 _ k1 k2') ?_⟩;rintro e Y ⟨rfl,bY⟩;refine⟨bY,?_⟩;have hY:=hD.below bY;refine biE (fun h=>?_) fun h=>?_
  ·have h:(!sameT l[i] l2[i])=true:=h;refine⟨rb ?_,hY.b⟩;rw [hR,show sameT l[i] l2[i]=false by simpa using h];rfl
  ·have h:(!sameT l[i] l2[i])=false:=h;rw [show sameT l[i] l2[i]=true by simpa using h,Js] at hR;exact nxI (by omega) ⟨i+1,(cvE rfl rfl),⟨hY,hil,hR⟩,zdc (by omega)⟩
 ·have hc:¬ (i:Int)<(l.length:Int):=dF hc;rw [JI (by omega),sameK] at hR;exact⟨rb hR.symm,hX.b⟩
theorem zrR:∀ a b,TerC a b
 | .mk k n l,.mk k2 n2 l2=>zrQ fun x hx y=>zrR x y
end
def zgN:List LineD->List LineD->Bool
 | [],_=>true
 | _::_,[]=>false
 | a::r,b::r2=>(decide (a.kind=b.kind)&&(decide (a.name=b.name)&&sameT a.term b.term))&&zgN r r2
def zka (a b:List LineD):Bool:=decide (a.length=b.length)&&zgN a b
theorem LinsM.line {Q:Nat->Prop} {w:World} {p:Option Addr} {ls:List LineD} (h:LinsM Q w p ls) {i:Nat} (hi:i<ls.length) :
  ∃ b o q c,p=some ⟨b,o,none⟩/\zav w ⟨b,o+i*5,none⟩ (zas ls[i].kind ls[i].name ls[i].term q c)/\b<w.heap.size/\ls[i].kind<=255/\ls[i].name.length<=140737488351232/\ls[i].term.name.length<=140737488351232/\KidsT Q w q ls[i].term.kids:=by
 obtain⟨rows,hrl,hrow,hrk,_⟩:=h;have hrn:rows.length=ls.length:=by rw [<- hrl,Jc]
 have hir:i<rows.length:=by omega
 have hxr:rows[i].1=ls[i]:=by
  have:(rows.map (·.1))[i]?=ls[i]?:=by rw [hrl]
  rw [Jm,gE hir,gE hi] at this;exact Jg this
 obtain⟨bk,o,hp,hbk,hcl⟩:=hrow.at hir;obtain⟨k1,k2,k3,k4⟩:=hrk rows[i] (gM hir);have hcell:zav w ⟨bk,o+i*5,none⟩ (zas rows[i].1.kind rows[i].1.name rows[i].1.term rows[i].2.1 rows[i].2.2):=hcl i hir;rw [hxr] at hcell k1 k2 k3 k4;exact⟨bk,o,_,_,hp,hcell,hbk,k1,k2,k3,k4⟩
section
variable {w:World}
structure TwoM (w:World) (a b:List LineD) (q p:Option Addr) (c d:Nat) (X:World):Prop where
 x:X.heap[w.heap.size]?=some (.cells #[.slice q a.length c] 47 (0,0))
 y:X.heap[w.heap.size+1]?=some (.cells #[.slice p b.length d] 47 (0,0))
 k:LinsM AllB X q a
 l:LinsM AllB X p b
 b:Bw w X
theorem TwoM.below {a b:List LineD} {q p:Option Addr} {c d:Nat} {X Y:World} (h:TwoM w a b q p c d X) (hb:Bw X Y):TwoM w a b q p c d Y :=
 ⟨zab hb h.x,zab hb h.y,h.k.below hb,h.l.below hb,h.b.trans (hb.mono h.b.size)⟩
theorem znO {a b:List LineD} {q p:Option Addr} {c d:Nat} (ha:a.length<=140737488351232) (hb:b.length<=140737488351232) (hq:LinsM AllB w q a) (hp:LinsM AllB w p b) :
  CB 36 #[.agg #[.slice q a.length c],.agg #[.slice p b.length d]] w (.bool (zka a b)):=by
 refine cofM 49 [.agg #[.slice q a.length c],.agg #[.slice p b.length d]] (.c .p (.c .p (.s (.s .p (.b (.l (.s .p (.s .p (.s (.b (.c .p (.c .p .p))) .p)))))) .p))) Tryz.func36 ?_;refine⟨Unit,fun _=>⟨[(2,At0 w.heap.size),(3,At0 (w.heap.size+1))],[]⟩,fun _ X=>TwoM w a b q p c d X,?_,?_⟩
 ·obtain⟨W1,e1⟩:=nm (w.alloc (.cells #[.slice q a.length c] 47));have n1:W1.heap.size=w.heap.size+1:=by rw [e1];exact wz _ _
  have f1:W1.heap[w.heap.size]?=some (.cells #[.slice q a.length c] 47 (0,0)):=by rw [e1];exact hnew w _
  have b1:Bw w W1:=by rw [e1];exact zba _ _
  obtain⟨W2,e2⟩:=nm (W1.alloc (.cells #[.slice p b.length d] 47));have f2:W2.heap[w.heap.size+1]?=some (.cells #[.slice p b.length d] 47 (0,0)):=by rw [e2,<- n1];exact hnew W1 _
  have b2:Bw W1 W2:=by rw [e2];exact zba _ _
  refine⟨(),⟨.cons rfl (.cons ?_ .nil),rfl⟩,?_⟩
  ·show some (At0 (w.alloc (.cells #[.slice q a.length c] 47)).heap.size)=_;rw [wz]
  ·have b12:=zst b1 b2;have key:TwoM w a b q p c d W2:=⟨zab b2 f1,f2,hq.below b12,hp.below b12,b12⟩;rw [e2,e1] at key;exact key
 rintro _ X hX;unfold zka;refine⟨Unit,fun _=>⟨[(2,At0 w.heap.size),(3,At0 (w.heap.size+1))],[]⟩,fun _ Y=>X=Y/\a.length=b.length,?_,?_⟩
 ·refine⟨_,zac (zaa hX.x) (i:=0) rfl,_,zac (zaa hX.y) (i:=0) rfl,biE (fun h3=>?_) fun h3=>?_⟩
  ·have h3:(!decide ((a.length:Int)=(b.length:Int)))=true:=h3;rw [zaF] at h3;exact⟨rb (by rw [show decide (a.length=b.length)=false by simpa using h3];rfl),hX.b⟩
  ·have h3:(!decide ((a.length:Int)=(b.length:Int)))=false:=h3;rw [zaF] at h3;exact⟨(),(cvE rfl rfl),rfl,by simpa using h3⟩
 rintro _ _ ⟨rfl,hlen⟩;rw [Ka hlen,Js];obtain⟨R,hR⟩:=nm (zgN a b);rw [<- hR];refine⟨_,zac (zaa hX.x) (i:=0) rfl,Nat,fun i=>⟨[(2,At0 w.heap.size),(3,At0 (w.heap.size+1)),(16,.slice q a.length c),(17,i64 (a.length:Nat)),(18,.int .i64 (i:Nat))],[]⟩,fun i X=>TwoM w a b q p c d X/\i<=a.length/\R=zgN (a.drop i) (b.drop i),fun i=>a.length-i,0,(cvE rfl rfl),⟨hX,Jh _,hR⟩,?_⟩;clear hX hR X hq hp;rintro i X ⟨hX,hi,hR⟩;dsimp only at hi hR ⊢;refine biE (fun hc=>?_) fun hc=>?_
 ·have hc:(i:Int)<(a.length:Int):=dT hc;have hil:i<a.length:=by omega
  have hil2:i<b.length:=by omega
  rw [JH hil,JH hil2,zgN] at hR;obtain⟨u,hu⟩:=nm (a[i]);obtain⟨v,hv⟩:=nm (b[i]);rw [<- hu,<- hv] at hR;obtain⟨b1,o1,q1,c1,rfl,e1,s1,_,_,m1,k1⟩:=hX.k.line hil;rw [<- hu] at e1 m1 k1;refine⟨Nat,fun x=>⟨[(2,At0 w.heap.size),(3,At0 (w.heap.size+1)),(5,.int .i64 (i:Nat)),(6,At0 x),(16,.slice (some ⟨b1,o1,none⟩) a.length c),(17,i64 (a.length:Nat)),(18,.int .i64 (i:Nat))],[]⟩,fun x Y=>TwoM w a b (some ⟨b1,o1,none⟩) p c d Y/\Y.heap[x]?=some (.cells (zas u.kind u.name u.term q1 c1).toArray 49 (0,0))/\KidsT AllB Y q1 u.term.kids,?_,?_⟩
  ·exact⟨i,rfl,hil,_,rfl,e1,s1,zak (X:=X) (v := .agg (zas u.kind u.name u.term q1 c1).toArray) k49 rfl rfl rfl fun Y hbY fY sY=>⟨X.heap.size,(cvE rfl rfl),hX.below hbY,fY,k1.kept hbY⟩⟩
  clear hX e1 s1 k1 X;rintro x X ⟨hX,fx,k1⟩;obtain⟨b2,o2,q2,c2,rfl,e2,s2,_,_,m2,k2⟩:=hX.l.line hil2;rw [<- hv] at e2 m2 k2;refine⟨Nat,fun y=>⟨[(2,At0 w.heap.size),(3,At0 (w.heap.size+1)),(6,At0 x),(7,At0 y),(16,.slice (some ⟨b1,o1,none⟩) a.length c),(17,i64 (a.length:Nat)),(18,.int .i64 (i:Nat))],[]⟩,fun y Y=>TwoM w a b (some ⟨b1,o1,none⟩) (some ⟨b2,o2,none⟩) c d Y/\Y.heap[x]?=some (.cells (zas u.kind u.name u.term q1 c1).toArray 49 (0,0))/\KidsT AllB Y q1 u.term.kids/\Y.heap[y]?=some (.cells (zas v.kind v.name v.term q2 c2).toArray 49 (0,0))/\KidsT AllB Y q2 v.term.kids,?_,?_⟩
  ·exact⟨_,zac (zaa hX.y) (i:=0) rfl,i,rfl,hil2,_,rfl,e2,s2,zak (X:=X) (v := .agg (zas v.kind v.name v.term q2 c2).toArray) k49 rfl rfl rfl fun Y hbY fY sY=>⟨X.heap.size,(cvE rfl rfl),hX.below hbY,zab hbY fx,k1.kept hbY,fY,k2.kept hbY⟩⟩
  clear hX fx k1 e2 s2 k2 X;rintro y X ⟨hX,fx,k1,fy,k2⟩;refine⟨_,zac (zaa fx) (i:=0) rfl,_,zac (zaa fy) (i:=0) rfl,biE (fun h1=>?_) fun h1=>?_⟩
  ·have h1:(!decide ((u.kind:Int)=(v.kind:Int)))=true:=h1;rw [zaF] at h1;exact brT (brT ⟨rb (by rw [hR,show decide (u.kind=v.kind)=false by simpa using h1];rfl),hX.b⟩)
  have h1:(!decide ((u.kind:Int)=(v.kind:Int)))=false:=h1;rw [zaF] at h1;rw [show decide (u.kind=v.kind)=true by simpa using h1,Js] at hR;refine⟨_,zac (zaa fx) (i:=1) rfl,_,zac (zaa fy) (i:=1) rfl,_,fun w=>zf7 _ _ u.name v.name w,biE (fun h2=>?_) fun h2=>?_⟩
  ·have h2:(!decide (u.name=v.name))=true:=h2;exact brT ⟨rb (by rw [hR,show decide (u.name=v.name)=false by simpa using h2];rfl),hX.b⟩
  have h2:(!decide (u.name=v.name))=false:=h2;rw [show decide (u.name=v.name)=true by simpa using h2,Js] at hR;have t1:zav X ⟨x,0+2,none⟩ (zad u.term q1 c1):=za9 (o:=2) (n:=3) fx;have t2:zav X ⟨y,0+2,none⟩ (zad v.term q2 c2):=za9 (o:=2) (n:=3) fy;refine⟨_,rfl,t1,hlt fx,_,rfl,t2,hlt fy,cmo (zrR u.term v.term q1 q2 c1 c2 X k1 k2) ?_⟩;rintro e Y ⟨rfl,bY⟩;have hY:=hX.below bY;refine biE (fun h=>?_) fun h=>?_
  ·have h:(!sameT u.term v.term)=true:=h;refine⟨rb ?_,hY.b⟩;rw [hR,show sameT u.term v.term=false by simpa using h];rfl
  ·have h:(!sameT u.term v.term)=false:=h;rw [show sameT u.term v.term=true by simpa using h,Js] at hR;exact nxI (by omega) ⟨i+1,(cvE rfl rfl),⟨hY,hil,hR⟩,zdc (by omega)⟩
 ·have hc:¬ (i:Int)<(a.length:Int):=dF hc;rw [JI (by omega),zgN] at hR;exact⟨rb hR.symm,hX.b⟩
end
theorem zcs {E:Env} {x:Operand} {v:Value} {f:Value->Prop} (h:opd E x=some v) (k:f v):zaJ E x f:=by unfold zaJ;rw [h];exact k
theorem zaC {E:Env} {t u:Nat} {v:Value} (h:u≠t):Env.find (setE (some u) v E) t=Env.find E t:=by
 show VEnv.find ((u,v)::E.vs) t=VEnv.find E.vs t;have:Nat.beq u t=false:=by cases hb:Nat.beq u t with | false=>rfl | true=>exact Kv (Jz hb) h
 simp only [VEnv.find,this]
theorem zc7 {E:Env} {t:Nat} {v:Value}:Env.find (setE (some t) v E) t=some v:=by
 show VEnv.find ((t,v)::E.vs) t=some v;simp only [VEnv.find,Nat.beq_refl]
def zrZ:Code->Array Oper
 | .region _ ops _=>ops
 | _ => #[]
def seqL:Code->Code
 | .seq a _=>a
 | c=>c
def seqR:Code->Code
 | .seq _ b=>b
 | c=>c
noncomputable def zf1:Array Oper:=zrZ (seqL (seqR (seqR (seqR (seqR ((Tryz.f51.body).getD .skip))))))
def lkD (D:Nat->Bool):List (Nat×Bs×Value)->Bs->Option Value
 | [],_=>none
 | (i,k,v)::r,q=>if q=k then (if D i=true then some v else none) else lkD D r q
theorem zge {D D':Nat->Bool}:∀ {l:List (Nat×Bs×Value)},(∀ p∈l,D' p.1=D p.1)->lkD D' l=lkD D l
 | [],_=>rfl
 | (i,k,v)::r,h=>by
  funext q;have h1:D' i=D i:=h (i,k,v) (Jv ..);simp only [lkD,h1,zge (l:=r) fun p hp=>h p (JB _ hp)]
theorem zkw {D:Nat->Bool}:∀ {l:List (Nat×Bs×Value)},(∀ p∈l,D p.1=false)->lkD D l=fun _=>none
 | [],_=>rfl
 | (i,k,v)::r,h=>by
  funext q;have h1:D i=false:=h (i,k,v) (Jv ..);simp only [lkD,h1,zkw (l:=r) fun p hp=>h p (JB _ hp)]
  split <;> rfl
theorem zpC {D:Nat->Bool} {i:Nat} {k:Bs} {v:Value}:∀ {l:List (Nat×Bs×Value)},(i,k,v)∈l->(l.map (·.1)).Nodup->(l.map (·.2.1)).Nodup->lkD (fun j=>Nat.beq j i||D j) l=fun q=>if q=k then some v else lkD D l q
 | [],h,_,_=>by cases h
 | (a,b,c)::r,h,h1,h2=>by
  rw [List.map_cons,List.nodup_cons] at h1 h2;funext q;rcases JV.1 h with e | e
  ·simp only [Ki] at e;obtain⟨rfl,rfl,rfl⟩:=e;by_cases hq:q=k
   ·simp only [lkD,hq,if_true,Nat.beq_refl,Bool.true_or]
   ·simp only [lkD,hq,if_false];rw [zge fun p hp=>?_];have:p.1≠i:=fun e=>h1.1 (by rw [<- e];exact List.mem_map_of_mem (f:=(·.1)) hp);have:Nat.beq p.1 i=false:=(by cases hb:Nat.beq p.1 i with | false=>rfl | true=>exact Kv (Jz hb) this);rw [this,Bool.false_or]
  ·have hk:k≠b:=fun e'=>h2.1 (by show b∈_;rw [<- e'];exact List.mem_map_of_mem (f:=fun p:Nat×Bs×Value=>p.2.1) e);have hi:i≠a:=fun e'=>h1.1 (by show a∈_;rw [<- e'];exact List.mem_map_of_mem (f:=fun p:Nat×Bs×Value=>p.1) e);have hb:Nat.beq a i=false:=by cases hb:Nat.beq a i with | false=>rfl | true=>exact Kv (Jz hb).symm hi
   have ih:=congrFun (zpC (D:=D) e h1.2 h2.2) q;simp only [lkD,hb,Bool.false_or,ih];by_cases hq:q=b
   ·have hqk:¬ q=k:=fun e=>hk (e.symm.trans hq);rw [Kc hq,JZ hqk,Kc hq]
   ·rw [JZ hq,JZ hq]
section
variable {x:ExD} {q:Option Addr} {c:Nat} {w:World}
def wldC (x:ExD) (q:Option Addr) (c:Nat) (mb:Nat):List Value:=exC x q c++[i64 (x.ev.length:Nat),.map (some mb)]
abbrev relV (r:RelD):Value := .agg (relC r).toArray
def crX (x:ExD):RelD:=zgw x.ev.length (allM x.ev.length) (allM x.ev.length)
def nwI (x:ExD):List (Nat×Bs×Value):=[(5,[112,111],relV (x.po)),(8,[114,102],relV (x.rf)),(11,[99,111],relV (x.co)),(14,[114,109,119],relV (x.rm)),(17,[100,97,116,97],relV (x.dt)),(20,[99,116,114,108],relV (x.ct)),(23,[102,114],relV (frX x)),(26,[108,111,99],relV (locX x)),(30,[105,100],relV (idR x.ev.length (allM x.ev.length))),(34,[101,120,116],relV (extX x (crX x))),(38,[105,110,116],relV (intX x (crX x)))]
def nwT (x:ExD) (q:Option Addr) (c bx:Nat):List (Nat×Nat×Value):=[(0,15,.agg (exC x q c).toArray),(1,16,i64 (x.ev.length:Nat)),(3,18,.pointer (some ⟨bx,0+1,none⟩)),(4,19,relV x.po),(6,20,.pointer (some ⟨bx,0+50,none⟩)),(7,21,relV x.rf),(9,22,.pointer (some ⟨bx,0+99,none⟩)),(10,23,relV x.co),(12,24,.pointer (some ⟨bx,0+246,none⟩)),(13,25,relV x.rm),(15,26,.pointer (some ⟨bx,0+148,none⟩)),(16,27,relV x.dt),(18,28,.pointer (some ⟨bx,0+197,none⟩)),(19,29,relV x.ct),(21,30,.agg (exC x q c).toArray),(22,31,relV (frX x)),(24,32,.agg (exC x q c).toArray),(25,33,relV (locX x)),(27,34,i64 (x.ev.length:Nat)),(28,35,s64 (allM x.ev.length)),(29,36,relV (idR x.ev.length (allM x.ev.length))),(31,37,.agg (exC x q c).toArray),(32,38,relV (crX x)),(33,39,relV (extX x (crX x))),(35,40,.agg (exC x q c).toArray),(36,41,relV (crX x)),(37,42,relV (intX x (crX x)))]
def nwB (x:ExD) (bx cb:Nat):VEnv:=[(1,At0 bx),(3,i64 (x.ev.length:Nat)),(4,s64 (allM x.ev.length)),(5,At0 cb)]
theorem zf2 {α β:Type} [DecidableEq β] {f:α->β}:∀ {l:List α},(l.map f).Nodup->∀ a∈l,∀ b∈l,f a=f b->a=b
 | [],_,a,ha,_,_,_=>by cases ha
 | y::r,h,a,ha,b,hb,e=>by
  rw [List.map_cons,List.nodup_cons] at h;rcases JV.1 ha with ea | ha'
  ·rcases JV.1 hb with eb | hb'
   ·rw [ea,eb]
   ·exact Kv (by rw [<- ea,e];exact List.mem_map_of_mem (f:=f) hb') h.1
  ·rcases JV.1 hb with eb | hb'
   ·exact Kv (by rw [<- eb,<- e];exact List.mem_map_of_mem (f:=f) ha') h.1
   ·exact zf2 h.2 a ha' b hb' e
def opsL:List Nat:=[0,1,3,4,6,7,9,10,12,13,15,16,18,19,21,22,24,25,27,28,29,31,32,33,35,36,37]
def sltL:List Nat:=[15,16,18,19,20,21,22,23,24,25,26,27,28,29,30,31,32,33,34,35,36,37,38,39,40,41,42]
def insL:List Nat:=[5,8,11,14,17,20,23,26,30,34,38]
theorem zqo (bx:Nat):((nwT x q c bx).map (·.1)).Nodup:=show opsL.Nodup by decide
theorem zmI (bx:Nat):((nwT x q c bx).map (·.2.1)).Nodup:=show sltL.Nodup by decide
theorem zqq:((nwI x).map (·.1)).Nodup:=show insL.Nodup by decide
theorem zoF:((nwI x).map (·.2.1)).Nodup:=by show ([[112,111],[114,102],[99,111],[114,109,119],[100,97,116,97],[99,116,114,108],[102,114],[108,111,99],[105,100],[101,120,116],[105,110,116]]:List Bs).Nodup;decide
theorem zse:∀ p∈nwI x,p.1<43:=by
 have h:∀ a∈insL,a<43:=by decide
 exact fun p hp=>h p.1 (List.mem_map_of_mem (f:=(·.1)) hp)
theorem zsd (bx:Nat):∀ p∈nwT x q c bx,(p.1 ∉ (nwI x).map (·.1))/\p.1≠2/\p.1<39:=by
 have h:∀ a∈opsL,a ∉ insL/\a≠2/\a<39:=by decide
 exact fun p hp=>h p.1 (List.mem_map_of_mem (f:=(·.1)) hp)
theorem zqp (bx:Nat):∀ p∈nwT x q c bx,15<=p.2.1/\p.2.1≠17/\p.2.1<43:=by
 have h:∀ a∈sltL,15<=a/\a≠17/\a<43:=by decide
 exact fun p hp=>h p.2.1 (List.mem_map_of_mem (f:=fun p:Nat×Nat×Value=>p.2.1) hp)
structure MpN (x:ExD) (q:Option Addr) (c:Nat) (R0:World) (D:Nat->Bool) (E:Env) (w:World) (mb:Nat):Prop where
 lo:R0.heap.size<=mb
 f:Env.find E 17=some (.map (some mb))
 m:MapF keyS w mb (lkD D (nwI x))
 a:D 39=true->Env.find E 43=some (.map (some mb))
 b:D 40=true->Env.find E 44=some (.agg (wldC x q c mb).toArray)
 e:D 41=true->∃ bb,R0.heap.size<=bb/\w.heap[bb]?=some (.cells (wldC x q c mb).toArray 120 (0,0))/\Env.find E 45=some (At0 bb)/\(D 42=true->Env.find E 2=some (At0 bb))
structure JN (x:ExD) (q:Option Addr) (c bx cb:Nat) (R0:World) (D:Nat->Bool) (E:Env) (w:World):Prop where
 ds:E.ds=[]
 bs:CovL E.vs (nwB x bx cb)
 tb:∀ p∈nwT x q c bx,D p.1=true->Env.find E p.2.1=some p.2.2
 bl:Bw R0 w
 mp:D 2=true->∃ mb,MpN x q c R0 D E w mb
 o1:D 40=true->D 39=true
 o2:D 41=true->D 40=true
 o3:D 42=true->D 41=true
 o4:D 2=false->D 39=false/\∀ p∈nwI x,D p.1=false
section
variable {bx cb i t:Nat} {v:Value} {R0:World} {D:Nat->Bool} {E:Env} {w':World}
theorem zdZ (h:CovL E.vs (nwB x bx cb)) {t:Nat} (ht:5<t\/t=2) (v:Value):CovL (setE (some t) v E).vs (nwB x bx cb):=by
 have k:=h.find;have g:∀ n u,VEnv.find (nwB x bx cb) n=some u->t≠n->VEnv.find (setE (some t) v E).vs n=some u:=fun n u hf hne=>(zaC (E:=E) (t:=n) (u:=t) (v:=v) hne).trans (k n u hf);exact .cons (g 1 _ rfl (by omega)) (.cons (g 3 _ rfl (by omega)) (.cons (g 4 _ rfl (by omega)) (.cons (g 5 _ rfl (by omega)) .nil)))
theorem orD (h:(Nat.beq i t||D i)=true) (hne:i≠t):D i=true:=by
 have:Nat.beq i t=false:=by cases hb:Nat.beq i t with | false=>rfl | true=>exact Kv (Jz hb) hne
 rwa [this,Bool.false_or] at h
theorem zed (hne:i≠t):(Nat.beq i t||D i)=D i:=by
 have:Nat.beq i t=false:=by cases hb:Nat.beq i t with | false=>rfl | true=>exact Kv (Jz hb) hne
 rw [this,Bool.false_or]
theorem JN.put (h:JN x q c bx cb R0 D E w) (hm:(i,t,v)∈nwT x q c bx) (hb:Bw w w'):JN x q c bx cb R0 (fun j=>Nat.beq j i||D j) (setE (some t) v E) w':=by
 obtain⟨s1,s2,s3⟩:=zqp bx _ hm;obtain⟨o1,o2,o3⟩:=zsd bx _ hm;dsimp only at s1 s2 s3 o1 o2 o3;refine⟨h.ds,zdZ h.bs (.inl (by omega)) v,fun p hp hd=>?_,h.bl.trans (hb.mono h.bl.size),fun hd=>?_,fun hd=>by rw [Kl];exact .inr (h.o1 (orD hd (by omega))),fun hd=>by rw [Kl];exact .inr (h.o2 (orD hd (by omega))),fun hd=>by rw [Kl];exact .inr (h.o3 (orD hd (by omega))),fun hd=>?_⟩
 rotate_left 1
 rotate_left 1
 ·have hd:(Nat.beq 2 i||D 2)=false:=hd;rw [zed (by omega)] at hd;obtain⟨k1,k2⟩:=h.o4 hd;exact⟨(zed (by omega)).trans k1,fun p hp=>(zed fun e=>o1 (by rw [<- e];exact List.mem_map_of_mem (f:=fun p:Nat×Bs×Value=>p.1) hp)).trans (k2 p hp)⟩
 ·by_cases e:p.1=i
  ·have:=zf2 (zqo bx) p hp _ hm e;rw [this];exact zc7
  ·have e2:t≠p.2.1:=fun e'=>e (by rw [zf2 (zmI bx) p hp _ hm e'.symm]);rw [zaC e2];exact h.tb p hp (orD hd e)
 ·obtain⟨mb,hM⟩:=h.mp (orD hd (by omega));have ml:=zbT hM.m;refine⟨mb,hM.lo,(zaC (by omega)).trans hM.f,?_,fun hd=>(zaC (by omega)).trans (hM.a (orD hd (by omega))),fun hd=>(zaC (by omega)).trans (hM.b (orD hd (by omega))),fun hd=>?_⟩
  ·rw [zge fun p hp=>zed fun e=>o1 (by rw [<- e];exact List.mem_map_of_mem (f:=(·.1)) hp)];exact hM.m.below hb
  ·obtain⟨bb,hlo,hbx,hf,h2⟩:=hM.e (orD hd (by omega));exact⟨bb,hlo,zab hb hbx,(zaC (by omega)).trans hf,fun hd=>(zaC (by omega)).trans (h2 (orD hd (by omega)))⟩
def okI (i:Nat):Bool:=decide (i<39)&&(decide (i≠2)&&decide (i ∉ opsL))
theorem JN.ins (h:JN x q c bx cb R0 D E w) {k:Bs} (hm:(i,k,v)∈nwI x) (h2:D 2=true) (hok:okI i=true) :
  ∃ mb,opd E (.tmp 17)=some (.map (some mb))/\∀ {K:World->Prop},(∀ w',JN x q c bx cb R0 (fun j=>Nat.beq j i||D j) E w'->K w')->SatR ((Instr.mapUpdate 118 (.map (some mb)) (keyS k) v).run Tryz.prog w) fun _ w'=>K w':=by
 unfold okI at hok;rw [bAT,bAT,dE,dE,dE] at hok;obtain⟨hi,hi2,hni⟩:=hok;replace hni:i ∉ (nwT x q c bx).map (·.1):=hni;obtain⟨mb,hM⟩:=h.mp h2;refine⟨mb,hM.f,fun {K} hK=>?_⟩;obtain⟨o,hr,hm'⟩:=zbx skey Tryz.underlying118 hM.m k v;refine⟨_,_,hr,hK _ ?_⟩;have ml:=zbT hM.m;refine⟨h.ds,h.bs,fun p hp hd=>h.tb p hp (orD hd fun e=>hni (by rw [<- e];exact List.mem_map_of_mem (f:=(·.1)) hp)),zbj h.bl hM.lo o,fun _=>⟨mb,hM.lo,hM.f,?_,fun hd=>hM.a (orD hd (by omega)),fun hd=>hM.b (orD hd (by omega)),fun hd=>?_⟩,fun hd=>by rw [Kl];exact .inr (h.o1 (orD hd (by omega))),fun hd=>by rw [Kl];exact .inr (h.o2 (orD hd (by omega))),fun hd=>by rw [Kl];exact .inr (h.o3 (orD hd (by omega))),fun hd=>Kv h2 (by have hd:(Nat.beq 2 i||D 2)=false:=hd;rw [zed (by omega)] at hd;rw [hd];decide)⟩
 ·rw [zpC hm zqq zoF];exact hm'
 ·obtain⟨bb,hlo,hbx,hf,h2⟩:=hM.e (orD hd (by omega));refine⟨bb,hlo,?_,hf,fun hd=>h2 (orD hd (by omega))⟩;have hne:bb≠mb:=by
   rintro rfl;obtain⟨es,cl,hh,_⟩:=hM.m;rw [hh] at hbx;cases hbx
  exact (zai hne).trans hbx
end
theorem and1 {a b:Bool} (h:(a&&b)=true):a=true:=by cases a with | true=>rfl | false=>cases h
theorem and2 {a b:Bool} (h:(a&&b)=true):b=true:=by cases a with | true=>exact h | false=>cases h
theorem mTn {bx:Nat} {p:Nat×Nat×Value} (i:Nat) (h:(nwT x q c bx)[i]?=some p):p∈nwT x q c bx:=Kr h
theorem mIn {p:Nat×Bs×Value} (i:Nat) (h:(nwI x)[i]?=some p):p∈nwI x:=Kr h
theorem znm:WrdR (crX x).to:=zdS fun i _ _=>by
 by_cases h:(allM x.ev.length).testBit i=true
 ·rw [Kc h];exact Nat.lt_of_le_of_lt Nat.and_le_left (zbu _)
 ·rw [JZ h];decide
structure R0N (x:ExD) (q:Option Addr) (c bx cb:Nat) (R0:World):Prop where
 h:ExH R0 bx x q c
 cr:R0.heap[cb]?=some (.cells (relC (crX x)).toArray 30 (0,0))
 v:ExV R0 x q
 t:Tz64M R0
theorem ziw:∀ (A B C xs:List Value),B.length=xs.length->zes (A++(B++C)) A.length xs=A++(xs++C)
 | A,B,C,[],h=>by rw [JS h];rfl
 | A,[],C,y::xs,h=>by simp at h
 | A,b::B,C,y::xs,h=>by
  have e:(A++(b::B++C)).set A.length y=(A++[y])++(B++C):=by
   rw [List.set_append_right _ _ (Jb _),Km];simp
  rw [zes,e];have:=ziw (A++[y]) B C xs (by simpa using h);rw [lap,List.length_singleton] at this;rw [this];simp
theorem zo1 {xs z:List Value} (hx:xs.length=333) (hz:z.length=335) {a b d:Operand} {n:Int} {r:Option Nat}:zfq (zgS [(0,333,true),(333,1,false),(334,1,false)]) z (zipN [(0,a),(1,b),(2,d)] [.agg xs.toArray,i64 n,.map r])=some (xs++[i64 n,.map r]):=by
 have e1:(Value.agg xs.toArray).cells.size=333:=hx;have e0:(Value.agg xs.toArray).cells.toList=xs:=rfl;have e2:(i64 n).cells.size=1:=rfl;have e3:(Value.map r).cells.size=1:=rfl;have h2:(i64 n).cells.toList=[i64 n]:=rfl;have h3:(Value.map r).cells.toList=[.map r]:=rfl;have hz2:z=z.take 333++z.drop 333:=(List.take_append_drop 333 z).symm;have hzt:(z.take 333).length=333:=by rw [JD];omega
 have hzd:(z.drop 333).length=2:=by rw [Ks];omega
 obtain⟨u,v,huv⟩:∃ u v,z.drop 333=[u,v]:=by
  match z.drop 333,hzd with
  | [u,v],_=>exact⟨u,v,rfl⟩
 have hp:zes z 0 xs=xs++[u,v]:=by
  rw [hz2,huv];exact ziw [] _ _ _ (by rw [hx,hzt])
 have l1:(xs++[u,v]).length=335:=by rw [lap,hx];rfl
 simp only [zipN,zfq,zgS,List.getElem?_cons_zero,List.getElem?_cons_succ,e0,e1,e2,e3,h2,h3,hz,hp];simp only [Nat.beq_refl,JL,Js,l1];have s1:zes (xs++[u,v]) 333 [i64 n]=xs++[i64 n,v]:=by
  simp only [zes];rw [List.set_append_right _ _ (by omega),hx];rfl
 have l2:(xs++[i64 n,v]).length=335:=by rw [lap,hx];rfl
 have s2:zes (xs++[i64 n,v]) 334 [.map r]=xs++[i64 n,.map r]:=by
  simp only [zes];rw [List.set_append_right _ _ (by omega),hx];rfl
 have b1:Nat.ble 333 335=true:=rfl;have b2:Nat.ble (333+1) 335=true:=rfl;have b3:Nat.ble (334+1) 335=true:=rfl;simp only [s1,l2,s2,b3]
theorem zpQ:(zrH).length=335:=by kernel_rfl
section
variable {bx cb i t:Nat} {v:Value} {R0:World} {D:Nat->Bool} {E:Env}
abbrev NwS (i:Nat):Prop:=∀ {x:ExD} {q:Option Addr} {c:Nat} {w:World} {bx cb:Nat} {R0:World} {D:Nat->Bool} {E:Env},R0N x q c bx cb R0->JN x q c bx cb R0 D E w->zjP zf1 D i=true->zdE (sg 46) zf1 i E w fun E' w'=>JN x q c bx cb R0 (fun j=>Nat.beq j i||D j) E' w'
theorem wT {E:Env} {t:Nat} {v:Value} {f:Value->Prop} (h:VEnv.find E.vs t=some v) (k:f v):zaJ E (.tmp t) f:=zcs (x := .tmp t) h k
theorem nw_0:NwS 0:=fun hR h hd=>wT (h.bs.find 1 _ rfl) ⟨_,zay _ _ _,zaa (zab h.bl hR.h),hlt (zab h.bl hR.h),h.put (mTn 0 rfl) (Ja _ _)⟩
theorem ztN:NwS 21:=fun hR h hd=>wT (h.bs.find 1 _ rfl) ⟨_,zay _ _ _,zaa (zab h.bl hR.h),hlt (zab h.bl hR.h),h.put (mTn 14 rfl) (Ja _ _)⟩
theorem ztK:NwS 24:=fun hR h hd=>wT (h.bs.find 1 _ rfl) ⟨_,zay _ _ _,zaa (zab h.bl hR.h),hlt (zab h.bl hR.h),h.put (mTn 16 rfl) (Ja _ _)⟩
theorem ztD:NwS 31:=fun hR h hd=>wT (h.bs.find 1 _ rfl) ⟨_,zay _ _ _,zaa (zab h.bl hR.h),hlt (zab h.bl hR.h),h.put (mTn 21 rfl) (Ja _ _)⟩
theorem ztz:NwS 35:=fun hR h hd=>wT (h.bs.find 1 _ rfl) ⟨_,zay _ _ _,zaa (zab h.bl hR.h),hlt (zab h.bl hR.h),h.put (mTn 24 rfl) (Ja _ _)⟩
theorem ztC:NwS 32:=fun hR h hd=>wT (h.bs.find 5 _ rfl) ⟨_,zae _,zaa (zab h.bl hR.cr),hlt (zab h.bl hR.cr),h.put (mTn 22 rfl) (Ja _ _)⟩
theorem zty:NwS 36:=fun hR h hd=>wT (h.bs.find 5 _ rfl) ⟨_,zae _,zaa (zab h.bl hR.cr),hlt (zab h.bl hR.cr),h.put (mTn 25 rfl) (Ja _ _)⟩
theorem nw_1:NwS 1:=fun hR h hd=>wT (h.bs.find 3 _ rfl) (h.put (mTn 1 rfl) (Ja _ _))
theorem ztH:NwS 27:=fun hR h hd=>wT (h.bs.find 3 _ rfl) (h.put (mTn 18 rfl) (Ja _ _))
theorem ztG:NwS 28:=fun hR h hd=>wT (h.bs.find 4 _ rfl) (h.put (mTn 19 rfl) (Ja _ _))
theorem nw_3:NwS 3:=fun hR h hd=>wT (h.bs.find 1 _ rfl) (h.put (mTn 2 rfl) (Ja _ _))
theorem nw_4:NwS 4:=fun hR h hd=>wT (h.tb _ (mTn 2 rfl) (and1 hd)) ⟨_,zae _,zbU (zab h.bl hR.h) (i:=0) (by decide) rfl,hlt (zab h.bl hR.h),h.put (mTn 3 rfl) (Ja _ _)⟩
theorem nw_6:NwS 6:=fun hR h hd=>wT (h.bs.find 1 _ rfl) (h.put (mTn 4 rfl) (Ja _ _))
theorem nw_7:NwS 7:=fun hR h hd=>wT (h.tb _ (mTn 4 rfl) (and1 hd)) ⟨_,zae _,zbU (zab h.bl hR.h) (i:=1) (by decide) rfl,hlt (zab h.bl hR.h),h.put (mTn 5 rfl) (Ja _ _)⟩
theorem nw_9:NwS 9:=fun hR h hd=>wT (h.bs.find 1 _ rfl) (h.put (mTn 6 rfl) (Ja _ _))
theorem ztY:NwS 10:=fun hR h hd=>wT (h.tb _ (mTn 6 rfl) (and1 hd)) ⟨_,zae _,zbU (zab h.bl hR.h) (i:=2) (by decide) rfl,hlt (zab h.bl hR.h),h.put (mTn 7 rfl) (Ja _ _)⟩
theorem ztW:NwS 12:=fun hR h hd=>wT (h.bs.find 1 _ rfl) (h.put (mTn 8 rfl) (Ja _ _))
theorem ztV:NwS 13:=fun hR h hd=>wT (h.tb _ (mTn 8 rfl) (and1 hd)) ⟨_,zae _,zbU (zab h.bl hR.h) (i:=5) (by decide) rfl,hlt (zab h.bl hR.h),h.put (mTn 9 rfl) (Ja _ _)⟩
theorem ztT:NwS 15:=fun hR h hd=>wT (h.bs.find 1 _ rfl) (h.put (mTn 10 rfl) (Ja _ _))
theorem ztS:NwS 16:=fun hR h hd=>wT (h.tb _ (mTn 10 rfl) (and1 hd)) ⟨_,zae _,zbU (zab h.bl hR.h) (i:=3) (by decide) rfl,hlt (zab h.bl hR.h),h.put (mTn 11 rfl) (Ja _ _)⟩
theorem ztQ:NwS 18:=fun hR h hd=>wT (h.bs.find 1 _ rfl) (h.put (mTn 12 rfl) (Ja _ _))
theorem ztP:NwS 19:=fun hR h hd=>wT (h.tb _ (mTn 12 rfl) (and1 hd)) ⟨_,zae _,zbU (zab h.bl hR.h) (i:=4) (by decide) rfl,hlt (zab h.bl hR.h),h.put (mTn 13 rfl) (Ja _ _)⟩
theorem ztM:NwS 22:=fun hR h hd=>wT (h.tb _ (mTn 14 rfl) (and1 hd)) (cmo (zub (hR.v.below h.bl) (hR.t.below h.bl)) fun e w3 k=>by obtain⟨rfl,hb⟩:=k;exact h.put (mTn 15 rfl) (hb))
theorem ztJ:NwS 25:=fun hR h hd=>wT (h.tb _ (mTn 16 rfl) (and1 hd)) (cmo (zs6 (hR.v.below h.bl) (hR.t.below h.bl)) fun e w3 k=>by obtain⟨rfl,hb⟩:=k;exact h.put (mTn 17 rfl) (hb))
theorem ztF:NwS 29:=fun hR h hd=>wT (h.tb _ (mTn 18 rfl) (and1 hd)) (wT (h.tb _ (mTn 19 rfl) (and1 (and2 hd))) (cmo (Id_c (by have:=hR.v.n;omega) (zbu _)) fun e w3 k=>by obtain⟨rfl,hb⟩:=k;exact h.put (mTn 20 rfl) (hb)))
theorem ztB:NwS 33:=fun hR h hd=>wT (h.tb _ (mTn 21 rfl) (and1 hd)) (wT (h.tb _ (mTn 22 rfl) (and1 (and2 hd))) (cmo (zte (hR.v.below h.bl) znm (hR.t.below h.bl)) fun e w3 k=>by obtain⟨rfl,hb⟩:=k;exact h.put (mTn 23 rfl) (hb)))
theorem ztx:NwS 37:=fun hR h hd=>wT (h.tb _ (mTn 24 rfl) (and1 hd)) (wT (h.tb _ (mTn 25 rfl) (and1 (and2 hd))) (cmo (ztc (hR.v.below h.bl) znm (hR.t.below h.bl)) fun e w3 k=>by obtain⟨rfl,hb⟩:=k;exact h.put (mTn 26 rfl) (hb)))
theorem insN {x:ExD} {q:Option Addr} {c:Nat} {w:World} {bx cb i:Nat} {k:Bs} {v:Value} {R0:World} {D:Nat->Bool} {E:Env} (h:JN x q c bx cb R0 D E w) (hm:(i,k,v)∈nwI x) (h2:D 2=true) (hok:okI i=true) {t:Nat} (ht:Env.find E t=some v):zaJ E (.tmp 17) fun m=>zaJ E (.const (keyS k)) fun a=>zaJ E (.tmp t) fun b=>SatR ((Instr.mapUpdate 118 m a b).run Tryz.prog w) fun _ w'=>JN x q c bx cb R0 (fun j=>Nat.beq j i||D j) E w':=by
 obtain⟨mb,hf,hk⟩:=h.ins hm h2 hok;exact zcs (x := .tmp 17) hf (zcs (x := .const _) rfl (wT ht (hk fun w' h=>h)))
theorem nw_5:NwS 5:=fun hR h hd=>insN h (mIn 0 rfl) (and1 hd) rfl (h.tb _ (mTn 3 rfl) (and1 (and2 hd)))
theorem nw_8:NwS 8:=fun hR h hd=>insN h (mIn 1 rfl) (and1 hd) rfl (h.tb _ (mTn 5 rfl) (and1 (and2 hd)))
theorem ztX:NwS 11:=fun hR h hd=>insN h (mIn 2 rfl) (and1 hd) rfl (h.tb _ (mTn 7 rfl) (and1 (and2 hd)))
theorem ztU:NwS 14:=fun hR h hd=>insN h (mIn 3 rfl) (and1 hd) rfl (h.tb _ (mTn 9 rfl) (and1 (and2 hd)))
theorem ztR:NwS 17:=fun hR h hd=>insN h (mIn 4 rfl) (and1 hd) rfl (h.tb _ (mTn 11 rfl) (and1 (and2 hd)))
theorem ztO:NwS 20:=fun hR h hd=>insN h (mIn 5 rfl) (and1 hd) rfl (h.tb _ (mTn 13 rfl) (and1 (and2 hd)))
theorem ztL:NwS 23:=fun hR h hd=>insN h (mIn 6 rfl) (and1 hd) rfl (h.tb _ (mTn 15 rfl) (and1 (and2 hd)))
theorem ztI:NwS 26:=fun hR h hd=>insN h (mIn 7 rfl) (and1 hd) rfl (h.tb _ (mTn 17 rfl) (and1 (and2 hd)))
theorem ztE:NwS 30:=fun hR h hd=>insN h (mIn 8 rfl) (and1 hd) rfl (h.tb _ (mTn 20 rfl) (and1 (and2 hd)))
theorem ztA:NwS 34:=fun hR h hd=>insN h (mIn 9 rfl) (and1 hd) rfl (h.tb _ (mTn 23 rfl) (and1 (and2 hd)))
theorem ztw:NwS 38:=fun hR h hd=>insN h (mIn 10 rfl) (and1 hd) rfl (h.tb _ (mTn 26 rfl) (and1 (and2 hd)))
theorem JN.env (h:JN x q c bx cb R0 D E w) {i:Nat} (hi:i ∉ (nwT x q c bx).map (·.1)) {t:Nat} (ht:t ∉ (nwT x q c bx).map (·.2.1)) (v:Value):∀ p∈nwT x q c bx,(fun j=>Nat.beq j i||D j) p.1=true->Env.find (setE (some t) v E) p.2.1=some p.2.2:=fun p hp hd=>by
 rw [zaC fun e=>ht (by rw [e];exact List.mem_map_of_mem (f:=fun p:Nat×Nat×Value=>p.2.1) hp)];exact h.tb p hp (orD hd fun e=>hi (by rw [<- e];exact List.mem_map_of_mem (f:=fun p:Nat×Nat×Value=>p.1) hp))
theorem ziQ {i:Nat} (hi:i ∉ (nwI x).map (·.1)):lkD (fun j=>Nat.beq j i||D j) (nwI x)=lkD D (nwI x) :=
 zge fun p hp=>zed fun e=>hi (by rw [<- e];exact List.mem_map_of_mem (f:=fun p:Nat×Bs×Value=>p.1) hp)
theorem nw_2 (hR:R0N x q c bx cb R0) (hJ:JN x q c bx cb R0 D E w) (hD:D 2=false):zdE (sg 46) zf1 2 E w fun E' w'=>JN x q c bx cb R0 (fun j=>Nat.beq j 2||D j) E' w':=by
 obtain⟨h39,hk⟩:=hJ.o4 hD;have hlk:=zkw hk;refine⟨Value.map (some w.heap.size),w.alloc (.map #[] 0),rfl,?_⟩;have m3:MapF (key:=keyS) (w.alloc (.map #[] 0)) w.heap.size (fun (_:Bs)=>none):=MapF.new;refine⟨hJ.ds,zdZ hJ.bs (.inl (by decide)) _,hJ.env (show 2 ∉ opsL by decide) (show 17 ∉ sltL by decide) _,hJ.bl.trans ((zba _ _).mono hJ.bl.size),fun _=>⟨w.heap.size,hJ.bl.size,zc7,?_,fun hd=>?_,fun hd=>?_,fun hd=>?_⟩,hJ.o1,hJ.o2,hJ.o3,fun hd=>by cases hd⟩
 ·rw [ziQ (show 2 ∉ insL by decide),hlk];exact m3
 ·exact Kv (orD hd (by decide)) (by rw [h39];decide)
 ·exact Kv (hJ.o1 (orD hd (by decide))) (by rw [h39];decide)
 ·exact Kv (hJ.o1 (hJ.o2 (orD hd (by decide)))) (by rw [h39];decide)
theorem ztv (hR:R0N x q c bx cb R0) (hJ:JN x q c bx cb R0 D E w) (h2:D 2=true):zdE (sg 46) zf1 39 E w fun E' w'=>JN x q c bx cb R0 (fun j=>Nat.beq j 39||D j) E' w':=by
 obtain⟨mb,hM⟩:=hJ.mp h2;refine zcs (x := .tmp 17) hM.f ⟨hJ.ds,zdZ hJ.bs (.inl (by decide)) _,hJ.env (show 39 ∉ opsL by decide) (show 43 ∉ sltL by decide) _,hJ.bl,fun _=>⟨mb,hM.lo,(zaC (by decide)).trans hM.f,?_,fun _=>zc7,fun hd=>(zaC (by decide)).trans (hM.b (orD hd (by decide))),fun hd=>?_⟩,fun _=>rfl,hJ.o2,hJ.o3,fun hd=>Kv ((zed (by decide)).symm.trans hd) (by rw [h2];decide)⟩
 ·rw [ziQ (show 39 ∉ insL by decide)];exact hM.m
 ·obtain⟨bb,hlo,hbx,hf,h2⟩:=hM.e (orD hd (by decide));exact⟨bb,hlo,hbx,(zaC (by decide)).trans hf,fun hd=>(zaC (by decide)).trans (h2 (orD hd (by decide)))⟩
theorem ztu (hR:R0N x q c bx cb R0) (hJ:JN x q c bx cb R0 D E w) (h2:D 2=true) (h0:D 0=true) (h1:D 1=true) (h39:D 39=true):zdE (sg 46) zf1 40 E w fun E' w'=>JN x q c bx cb R0 (fun j=>Nat.beq j 40||D j) E' w':=by
 obtain⟨mb,hM⟩:=hJ.mp h2;refine zcs (x := .tmp 15) (v := .agg (exC x q c).toArray) (hJ.tb _ (mTn 0 rfl) h0) (zcs (x := .tmp 16) (v:=i64 (x.ev.length:Nat)) (hJ.tb _ (mTn 1 rfl) h1) (zcs (x := .tmp 43) (v := .map (some mb)) (hM.a h39) ⟨wldC x q c mb,zo1 (zay x q c) zpQ,hJ.ds,zdZ hJ.bs (.inl (by decide)) _,hJ.env (show 40 ∉ opsL by decide) (show 44 ∉ sltL by decide) _,hJ.bl,fun _=>⟨mb,hM.lo,(zaC (by decide)).trans hM.f,?_,fun hd=>(zaC (by decide)).trans (hM.a (orD hd (by decide))),fun _=>zc7,fun hd=>?_⟩,fun _=>h39,fun _=>rfl,hJ.o3,fun hd=>Kv ((zed (by decide)).symm.trans hd) (by rw [h2];decide)⟩))
 ·rw [ziQ (show 40 ∉ insL by decide)];exact hM.m
 ·obtain⟨bb,hlo,hbx,hf,h2⟩:=hM.e (orD hd (by decide));exact⟨bb,hlo,hbx,(zaC (by decide)).trans hf,fun hd=>(zaC (by decide)).trans (h2 (orD hd (by decide)))⟩
theorem ztt (hR:R0N x q c bx cb R0) (hJ:JN x q c bx cb R0 D E w) (h2:D 2=true) (h40:D 40=true) (h41:D 41=false):zdE (sg 46) zf1 41 E w fun E' w'=>JN x q c bx cb R0 (fun j=>Nat.beq j 41||D j) E' w':=by
 obtain⟨mb,hM⟩:=hJ.mp h2;refine zcs (x := .tmp 44) (v := .agg (wldC x q c mb).toArray) (hM.b h40) ?_;have f1:(w.alloc (.cells (wldC x q c mb).toArray 120)).heap[w.heap.size]?=some (.cells (wldC x q c mb).toArray 120 (0,0)):=hnew w _;have bw:=zba w (.cells (wldC x q c mb).toArray 120);refine⟨hJ.ds,zdZ hJ.bs (.inl (by decide)) _,hJ.env (show 41 ∉ opsL by decide) (show 45 ∉ sltL by decide) _,hJ.bl.trans (bw.mono hJ.bl.size),fun _=>⟨mb,hM.lo,(zaC (by decide)).trans hM.f,?_,fun hd=>(zaC (by decide)).trans (hM.a (orD hd (by decide))),fun hd=>(zaC (by decide)).trans (hM.b (orD hd (by decide))),fun _=>⟨w.heap.size,hJ.bl.size,f1,zc7,fun hd=>?_⟩⟩,hJ.o1,fun _=>h40,fun _=>rfl,fun hd=>Kv ((zed (by decide)).symm.trans hd) (by rw [h2];decide)⟩
 ·rw [ziQ (show 41 ∉ insL by decide)];exact hM.m.below bw
 ·exact Kv (hJ.o3 (orD hd (by decide))) (by rw [h41];decide)
theorem zts (hR:R0N x q c bx cb R0) (hJ:JN x q c bx cb R0 D E w) (h2:D 2=true) (h41:D 41=true):zdE (sg 46) zf1 42 E w fun E' w'=>JN x q c bx cb R0 (fun j=>Nat.beq j 42||D j) E' w':=by
 obtain⟨mb,hM⟩:=hJ.mp h2;obtain⟨bb,hlo,hbx,hf,_⟩:=hM.e h41;refine zcs (x := .tmp 45) (v:=At0 bb) hf ⟨hJ.ds,zdZ hJ.bs (.inr rfl) _,hJ.env (show 42 ∉ opsL by decide) (show 2 ∉ sltL by decide) _,hJ.bl,fun _=>⟨mb,hM.lo,(zaC (by decide)).trans hM.f,?_,fun hd=>(zaC (by decide)).trans (hM.a (orD hd (by decide))),fun hd=>(zaC (by decide)).trans (hM.b (orD hd (by decide))),fun _=>⟨bb,hlo,hbx,(zaC (by decide)).trans hf,fun _=>zc7⟩⟩,hJ.o1,hJ.o2,fun _=>h41,fun hd=>Kv ((zed (by decide)).symm.trans hd) (by rw [h2];decide)⟩;rw [ziQ (show 42 ∉ insL by decide)];exact hM.m
theorem JN.d2 (h:JN x q c bx cb R0 D E w) (h39:D 39=true):D 2=true:=by
 cases h2:D 2 with
 | true=>rfl
 | false=>rw [(h.o4 h2).1] at h39;cases h39
theorem zrj {P:Nat->Prop} (h0:P 0) (h1:P 1) (h2:P 2) (h3:P 3) (h4:P 4) (h5:P 5) (h6:P 6) (h7:P 7) (h8:P 8) (h9:P 9) (h10:P 10) (h11:P 11) (h12:P 12) (h13:P 13) (h14:P 14) (h15:P 15) (h16:P 16) (h17:P 17) (h18:P 18) (h19:P 19) (h20:P 20) (h21:P 21) (h22:P 22) (h23:P 23) (h24:P 24) (h25:P 25) (h26:P 26) (h27:P 27) (h28:P 28) (h29:P 29) (h30:P 30) (h31:P 31) (h32:P 32) (h33:P 33) (h34:P 34) (h35:P 35) (h36:P 36) (h37:P 37) (h38:P 38) (h39:P 39) (h40:P 40) (h41:P 41) (h42:P 42) (hr:∀ i,P (i+43)):∀ i,P i
 | 0=>h0
 | 1=>h1
 | 2=>h2
 | 3=>h3
 | 4=>h4
 | 5=>h5
 | 6=>h6
 | 7=>h7
 | 8=>h8
 | 9=>h9
 | 10=>h10
 | 11=>h11
 | 12=>h12
 | 13=>h13
 | 14=>h14
 | 15=>h15
 | 16=>h16
 | 17=>h17
 | 18=>h18
 | 19=>h19
 | 20=>h20
 | 21=>h21
 | 22=>h22
 | 23=>h23
 | 24=>h24
 | 25=>h25
 | 26=>h26
 | 27=>h27
 | 28=>h28
 | 29=>h29
 | 30=>h30
 | 31=>h31
 | 32=>h32
 | 33=>h33
 | 34=>h34
 | 35=>h35
 | 36=>h36
 | 37=>h37
 | 38=>h38
 | 39=>h39
 | 40=>h40
 | 41=>h41
 | 42=>h42
 | i+43=>hr i
end
theorem zg0 (hv:ExV w x q) (hT:Tz64M w):Calls Tryz.prog 51 #[.agg (exC x q c).toArray] w fun e w'=>∃ bb mb,e = .returned (At0 bb)/\w.heap.size<=bb/\w.heap.size<=mb/\w'.heap[bb]?=some (.cells (wldC x q c mb).toArray 120 (0,0))/\MapF keyS w' mb (lkD (fun _=>true) (nwI x))/\Bw w w':=by
 have hn:=hv.n;refine zlv (S:=sg 46) (sgOk _) (args:=[.agg (exC x q c).toArray]) (.c (.m .p) (.s (.m .p) (.s (.m .p) (.c (.m .p) (.c .i (.m .p)))))) Tryz.func51 rfl rfl (JO rfl) rfl ?_;refine⟨Unit,fun _=>⟨[(1,At0 w.heap.size)],[]⟩,fun _ X=>ExH X w.heap.size x q c/\Bw w X,⟨(),(cvE rfl rfl),hnew w _,zba _ _⟩,?_⟩;rintro _ X ⟨fX,bX⟩;refine⟨_,zcq (zaa fX),cmo zgL ?_⟩;rintro e Y ⟨rfl,h⟩;subst h;refine⟨Nat,fun cb=>⟨nwB x w.heap.size cb,[]⟩,fun cb R=>R0N x q c w.heap.size cb R/\Bw w R,?_,?_⟩
 ·refine cmo (znV (by omega) (zbu _) (zbu _)) ?_;rintro e Y ⟨rfl,bY⟩;have b1:=zst bX bY;refine zak (X:=Y) (v := .agg (relC (crX x)).toArray) k30 (zae _) rfl (zaw _) fun Z hbZ fZ sZ=>?_;have b2:=zst b1 hbZ;exact⟨Y.heap.size,(cvE rfl rfl),⟨zab hbZ (zab bY fX),fZ,hv.below b2,hT.below b2⟩,b2⟩
 clear fX bX X;rintro cb R0 ⟨hR,b0⟩;refine⟨Nat×Nat,fun y=>⟨[(2,At0 y.1)],[]⟩,fun y X=>w.heap.size<=y.1/\w.heap.size<=y.2/\X.heap[y.1]?=some (.cells (wldC x q c y.2).toArray 120 (0,0))/\MapF keyS X y.2 (lkD (fun _=>true) (nwI x))/\Bw w X,?_,?_⟩
 ·refine⟨by kernel_rfl,fun D E w'=>JN x q c w.heap.size cb R0 D E w',?_,?_,?_⟩
  ·exact⟨rfl,.cons rfl (.cons rfl (.cons rfl (.cons rfl .nil))),(fun p _ h=>by cases h),(Ja _ _).drew,(fun h=>by cases h),(fun h=>by cases h),(fun h=>by cases h),(fun h=>by cases h),fun _=>⟨rfl,fun _ _=>rfl⟩⟩
  ·intro D E w' i hJ hD hdep;have key:∀ i,D i=false->zjP zf1 D i=true->zdE (sg 46) zf1 i E w' fun E' w''=>JN x q c w.heap.size cb R0 (fun j=>Nat.beq j i||D j) E' w'':=by
    refine zrj (P:=fun i=>D i=false->zjP zf1 D i=true->zdE (sg 46) zf1 i E w' fun E' w''=>JN x q c w.heap.size cb R0 (fun j=>Nat.beq j i||D j) E' w'')
     (fun _ hd=>nw_0 hR hJ hd)
     (fun _ hd=>nw_1 hR hJ hd)
     (fun hD _=>nw_2 hR hJ hD)
     (fun _ hd=>nw_3 hR hJ hd)
     (fun _ hd=>nw_4 hR hJ hd)
     (fun _ hd=>nw_5 hR hJ hd)
     (fun _ hd=>nw_6 hR hJ hd)
     (fun _ hd=>nw_7 hR hJ hd)
     (fun _ hd=>nw_8 hR hJ hd)
     (fun _ hd=>nw_9 hR hJ hd)
     (fun _ hd=>ztY hR hJ hd)
     (fun _ hd=>ztX hR hJ hd)
     (fun _ hd=>ztW hR hJ hd)
     (fun _ hd=>ztV hR hJ hd)
     (fun _ hd=>ztU hR hJ hd)
     (fun _ hd=>ztT hR hJ hd)
     (fun _ hd=>ztS hR hJ hd)
     (fun _ hd=>ztR hR hJ hd)
     (fun _ hd=>ztQ hR hJ hd)
     (fun _ hd=>ztP hR hJ hd)
     (fun _ hd=>ztO hR hJ hd)
     (fun _ hd=>ztN hR hJ hd)
     (fun _ hd=>ztM hR hJ hd)
     (fun _ hd=>ztL hR hJ hd)
     (fun _ hd=>ztK hR hJ hd)
     (fun _ hd=>ztJ hR hJ hd)
     (fun _ hd=>ztI hR hJ hd)
     (fun _ hd=>ztH hR hJ hd)
     (fun _ hd=>ztG hR hJ hd)
     (fun _ hd=>ztF hR hJ hd)
     (fun _ hd=>ztE hR hJ hd)
     (fun _ hd=>ztD hR hJ hd)
     (fun _ hd=>ztC hR hJ hd)
     (fun _ hd=>ztB hR hJ hd)
     (fun _ hd=>ztA hR hJ hd)
     (fun _ hd=>ztz hR hJ hd)
     (fun _ hd=>zty hR hJ hd)
     (fun _ hd=>ztx hR hJ hd)
     (fun _ hd=>ztw hR hJ hd)
     (fun _ hd=>ztv hR hJ (and1 hd))
     (fun _ hd=>ztu hR hJ (hJ.d2 (and1 (and2 (and2 hd)))) (and1 hd) (and1 (and2 hd)) (and1 (and2 (and2 hd))))
     (fun hD hd=>ztt hR hJ (hJ.d2 (hJ.o1 (and1 hd))) (and1 hd) hD)
     (fun hD hd=>zts hR hJ (hJ.d2 (hJ.o1 (hJ.o2 (and1 hd)))) (and1 hd))
     ?_
    exact fun i _ _=>trivial
   exact key i hD hdep
  ·intro D E w' hall hJ;obtain⟨mb,hM⟩:=hJ.mp (hall 2 (by decide));obtain⟨bb,hlo,hbx,_,h2⟩:=hM.e (hall 41 (by decide));have e1:lkD D (nwI x)=lkD (fun _=>true) (nwI x):=(zge fun p hp=>(hall p.1 (zse p hp)).symm).symm;exact⟨(bb,mb),⟨.cons (h2 (hall 42 (by decide))) .nil,hJ.ds⟩,Jj b0.size hlo,Jj b0.size hM.lo,hbx,by rw [<- e1];exact hM.m,b0.trans (hJ.bl.mono b0.size)⟩
 rintro⟨bb,mb⟩ X ⟨h1,h2,f1,m1,b1⟩;exact⟨bb,mb,rfl,h1,h2,f1,m1,b1⟩
end
end Go.Proofs.YtnadlhpkpnfmbaaGreatDoor
