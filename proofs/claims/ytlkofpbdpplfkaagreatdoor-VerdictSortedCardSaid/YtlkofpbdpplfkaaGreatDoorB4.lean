/- Contracts of functions, and plain facts, for the law that the last text of this claim proves. -/
import Derived.Test.YtlkofpbdpplfkaaGreatDoorB3
import Derived.Test.YtlkofpbdpplfkaaGreatDoorB2
import Derived.Test.YtlkofpbdpplfkaaGreatDoorB1
set_option linter.unusedSimpArgs false
set_option linter.unusedVariables false
namespace Go.Proofs.YtlkofpbdpplfkaaGreatDoor
open Go.Vc Go.RowKit Go.Sei
theorem zfO {a b c:World} {g r:Nat} (h:a.grownBy b (some g)) (k:b.grownBy c (some r)) (hr:a.heap.size<=r):a.grownBy c (some g) :=
 ⟨k.os.trans h.os,k.tape.trans h.tape,k.output.trans h.output,Nat.le_trans h.size k.size,fun i hi hne=>(k.block i (nL hi h.size) (fun e=>by simp only [Option.some.injEq] at e;omega)).trans (h.block i hi hne)⟩
theorem zpv {x y:Int} {T:Array TypeId} {t:TypeId} {w:World} {K:Value->World->Prop} (k:K (.int .i64 (if y<x then y else x)) w):SatR ((Builtin.min_ T t [Value.int .i64 x,.int .i64 y].toArray).run Tryz.prog w) K :=
 SatR.mk (v := .int .i64 (if y<x then y else x)) (w':=w) (by simp [Builtin.min_,Builtin.min2]) k
section
variable {s:List UInt8} {f a:Nat} {op:Bool}
theorem zjC (h:zaA s a<s.length) (h2:¬ clsL s[zaA s a]=2):zcs s (f+1) a op=some (tokL s (zaA s a) s[zaA s a],endL s (zaA s a) s[zaA s a],true):=by
 unfold zcs;rw [gE h];simp only [if_neg h2]
theorem zgU (h:zbN s (zaA s a)=true):zcs s (f+1) a true=some (⟨4,[],zaA s a⟩,min (zaA s a+1) s.length,false):=by
 unfold zcs;by_cases hp:zaA s a<s.length
 ·rw [zdw hp] at h;have h:=dT h;rw [gE hp];simp only [if_pos h];rfl
 ·rw [List.getElem?_eq_none (by omega)];rfl
theorem zhM (h:s.length<=zaA s a):zcs s (f+1) a false=none:=by
 unfold zcs;rw [List.getElem?_eq_none h];rfl
theorem zhN (h:zaA s a<s.length) (h2:clsL s[zaA s a]=2):zcs s (f+1) a false=zcs s f (min (zaA s a+1) s.length) false:=by
 conv=>lhs;unfold zcs
 rw [gE h];simp only [if_pos h2];rfl
theorem zlK:a<=zaA s a:=by
 have h1:a<=zdj s a:=Nat.le_add_right _ _;unfold zaA
 split
 ·split
  ·omega
  ·exact h1
 ·exact h1
end
def zTok:Tok:=⟨0,[],0⟩
theorem zoz {g a:Nat} {s:List UInt8} {op:Bool} {w:World} (h:ScV w g s a op) (ha:a<=s.length) (hs:s.length<=140737488351232) :
  Calls Tryz.prog 238 #[At0 g] w fun e w'=>∃ t a' op' ok,e = .returned (.tuple #[.agg (tokE.enc t).toArray,.bool ok])/\(ok=true->zcs s (s.length+2) a op=some (t,a',op'))/\(ok=false->zcs s (s.length+2) a op=none) /\
   a'<=s.length/\ScV w' g s a' op'/\w.grownBy w' (some g):=by
 refine cofE 57 [At0 g] Tryz.func238 ?_;obtain⟨r,hr⟩:=nm (w.heap.size);have hgl:g<r:=by rw [hr];exact hlt h
 obtain⟨W0,hW0⟩:=nm (w.alloc (.cells (tokE.enc zTok).toArray 190));have hb0:Bw w W0:=by rw [hW0];exact (zba _ _)
 have f0:W0.heap[r]?=some (.cells (tokE.enc zTok).toArray 190 (0,0)):=by rw [hW0,hr];exact hnew w _
 have h0:ScV W0 g s a op:=h.below hb0;refine⟨Nat×Nat×Bool,fun k=>⟨[(0,At0 g),(2,At0 r)],[]⟩,fun k X=>s.length+1<=k.1+k.2.1/\k.2.1<=s.length/\zcs s (k.1+1) k.2.1 k.2.2=zcs s (s.length+2) a op/\ScV X g s k.2.1 k.2.2/\w.grownBy X (some g)/\X.heap[r]?=some (.cells (tokE.enc zTok).toArray 190 (0,0)),
  fun k=>s.length-k.2.1,(s.length+1,a,op),⟨.cons rfl (.cons (by rw [hr];rfl) .nil),rfl⟩,⟨by omega,ha,rfl,by subst hW0;exact h0,by subst hW0;exact zah hb0,by subst hW0;exact f0⟩,?_⟩
 clear hW0 hb0 f0 h0 W0;rintro⟨f,k,o⟩ X ⟨hf,hk,hn,hX,gX,fX⟩;dsimp only at hf hk hn hX gX fX ⊢;have fillR:∀ (t:Tok) (Y:World),Y.heap[r]?=some (.cells (tokE.enc zTok).toArray 190 (0,0))->∀ (K:World->Prop),(∀ R,R.heap[r]?=some (.cells (tokE.enc t).toArray 190 (0,0))->Y.grownBy R (some r)->K R) ->
   SatR ((storeVar 190 ⟨r,0,none⟩ (.agg (tokE.enc t).toArray)).run Tryz.prog Y) fun _ w'=>K w':=fun t Y fY K q =>
  zam (v := .agg (tokE.enc t).toArray) k190 fY rfl rfl rfl (q _ (zaj fY) (zaO Y _ _))
 have keepR:∀ {A B:World},A.grownBy B (some g)->A.heap[r]?=some (.cells (tokE.enc zTok).toArray 190 (0,0))->B.heap[r]?=some (.cells (tokE.enc zTok).toArray 190 (0,0)):=fun hg hA=>(hg.block _ (hlt hA) (fun e=>by simp only [Option.some.injEq] at e;omega)).trans hA;have keepS:∀ {A B:World} {a:Nat} {o:Bool} {q:Nat},A.grownBy B (some q)->g≠q->ScV A g s a o->ScV B g s a o:=fun hg hq hA=>(hg.block _ (hlt hA) (fun e=>hq (by simpa using e))).trans hA;refine cmo (zqR hX hk hs) ?_;rintro e Y ⟨⟨v,rfl⟩,hY,gY⟩;have hp:=zlJ (s:=s) hk;have hpk:=zlK (s:=s) (a:=k);have fY:=keepR gY fX;have gwY:=zae gX gY;refine cmo (zmS hY.cells (hlt hY)) ?_;rintro e Z ⟨rfl,hbZ⟩;have hZ:=hY.below hbZ;have gwZ:=zg9 gwY hbZ;have fZ:=zab hbZ fY;refine biE (fun hc=>?_) fun hc=>?_
 ·have hc:zbN s (zaA s k)=false:=by
   have h1:(!zbN s (zaA s k))=true:=hc;simpa using h1
  have hl:zaA s k<s.length:=by
   by_cases h1:zaA s k<s.length
   ·exact h1
   ·rw [zhl (by omega)] at hc;cases hc
  rw [zdw hl] at hc;have hc:=dF hc;rw [zjC hl hc] at hn;refine zjs hZ true fun U hU gU sU=>?_;have gwU:=zae gwZ gU;have fU:=keepR gU fZ;refine cmo (zoZ hU hl hs) ?_;rintro e V ⟨rfl,hV,gV⟩;have gwV:=zae gwU gV;refine fillR _ V (keepR gV fU) _ fun R fR gR=>?_;refine⟨_,rfl,zaa fR,?_⟩;exact⟨_,_,_,true,rfl,fun _=>hn.symm,fun h=>(by cases h),(zmo hl _).2,keepS gR (by omega) hV,zfO gwV gR (by omega)⟩
 have hc:zbN s (zaA s k)=true:=by
  have h1:(!zbN s (zaA s k))=false:=hc;simpa using h1
 refine⟨_,zac hZ.cells (i:=1) rfl,?_⟩;refine⟨tokE.enc ⟨4,[],zaA s k⟩,rfl,?_⟩;refine zap (X:=Z) (v := .agg (tokE.enc ⟨4,[],zaA s k⟩).toArray) k190 rfl rfl rfl fun U hbU fU4 sU=>?_;have fU4:U.heap[Z.heap.size]?=some (.cells (tokE.enc ⟨4,[],zaA s k⟩).toArray 190 (0,0)):=fU4;have hU:=hZ.below hbU;have gwU:=zg9 gwZ hbU;have fU:=zab hbU fZ;have hzs:r<Z.heap.size:=hlt fZ;refine cmo (zjA hU.cells) ?_;rintro e V ⟨rfl,hbV⟩;have hV:=hU.below hbV;have gwV:=zg9 gwU hbV;have fV:=zab hbV fU;have fV4:=zab hbV fU4;refine DrawE.ord [17] [0,1,2,3,4,5,6,7,8,9,10,11,12,13,14,15,16,17] (by kernel_rfl) ?_;have hVd:ScV V.drew g s (zaA s k) o:=hV;refine⟨_,zac hVd.cells (i:=1) rfl,?_⟩;refine⟨(zaA s k+1:Nat),(zaf (by omega)).trans (by omega),?_⟩;refine⟨_,zac hVd.cells (i:=0) rfl,?_⟩;refine zpv ?_;refine⟨Below.refl _ _,?_⟩;have hmin:(if ((s.length:Nat):Int)<((zaA s k+1:Nat):Int) then ((s.length:Nat):Int) else ((zaA s k+1:Nat):Int))=((min (zaA s k+1) s.length:Nat):Int):=by
  split <;> omega
 have e5:Value.int .i64 (if (((bs s).size:Nat):Int)<((zaA s k+1:Nat):Int) then (((bs s).size:Nat):Int) else ((zaA s k+1:Nat):Int))=i64 (min (zaA s k+1) s.length:Nat):=by
  rw [show (bs s).size=s.length from rfl,hmin];rfl
 rw [e5];refine zgk hVd (min (zaA s k+1) s.length) fun R hR gR sR=>?_;have gwR:=zae (zae gwV (zah (Below.refl _ V).drew)) gR;have fR:=keepR gR (hdr fV);have fR4:R.heap[Z.heap.size]?=some (.cells (tokE.enc ⟨4,[],zaA s k⟩).toArray 190 (0,0)):=(gR.block _ (hlt (hdr fV4)) (fun e=>by simp only [Option.some.injEq] at e;omega)).trans (hdr fV4);refine⟨_,zac (zaa hR) (i:=2) rfl,?_⟩;refine biE (fun ho=>?_) fun ho=>?_
 ·have ho:o=true:=ho;subst ho;rw [zgU hc] at hn;refine zjs hR false fun T hT gT sT=>?_;have gwT:=zae gwR gT;have fT:=keepR gT fR;have fT4:T.heap[Z.heap.size]?=some (.cells (tokE.enc ⟨4,[],zaA s k⟩).toArray 190 (0,0)):=(gT.block _ (hlt fR4) (fun e=>by simp only [Option.some.injEq] at e;omega)).trans fR4;refine⟨_,rfl,zaa fT4,hlt fT4,?_⟩;refine fillR ⟨4,[],zaA s k⟩ T fT _ fun L fL gL=>?_;refine⟨_,rfl,zaa fL,?_⟩;exact⟨_,_,_,true,rfl,fun _=>hn.symm,fun h=>(by cases h),Nat.min_le_right _ _,keepS gL (by omega) hT,zfO gwT gL (by omega)⟩
 ·have ho:o=false:=ho;subst ho;refine biE (fun h5=>?_) fun h5=>?_
  ·have h5:s.length<=zaA s k:=dT h5;rw [zhM h5] at hn;refine⟨tokE.enc zTok,rfl,?_⟩;refine fillR zTok R fR _ fun L fL gL=>?_;refine⟨_,rfl,zaa fL,?_⟩;exact⟨_,_,_,false,rfl,fun h=>(by cases h),fun _=>hn.symm,Nat.min_le_right _ _,keepS gL (by omega) hR,zfO gwR gL (by omega)⟩
  ·have h5:¬ s.length<=zaA s k:=dF h5;have hl:zaA s k<s.length:=by omega
   have h2:clsL s[zaA s k]=2:=by rw [zdw hl] at hc;exact dT hc
   rw [zhN hl h2] at hn;have hmn:min (zaA s k+1) s.length=zaA s k+1:=Nat.min_eq_left (by omega);obtain⟨f',rfl⟩:∃ f',f=f'+1:=⟨f-1,by omega⟩;exact⟨(f',min (zaA s k+1) s.length,false),(cvE rfl rfl),⟨by show _<=f'+min _ _;omega,Nat.min_le_right _ _,hn,hR,gwR,fR⟩,by show s.length-min _ _<s.length-k;omega⟩
def bOp (op:Bool):Nat:=if op then 1 else 0
theorem zky {s:List UInt8} {f a a':Nat} {op op':Bool} {t:Tok} (h:zcs s (f+1) a op=some (t,a',op')) :
  (∃ hl:zaA s a<s.length,t=tokL s (zaA s a) s[zaA s a]/\a'=endL s (zaA s a) s[zaA s a]/\op'=true)\/(op=true/\t=⟨4,[],zaA s a⟩/\a'=min (zaA s a+1) s.length/\op'=false) \/
   (op=false/\zaA s a<s.length/\zcs s f (min (zaA s a+1) s.length) false=some (t,a',op')):=by
 by_cases hp:zaA s a<s.length
 ·by_cases h2:clsL s[zaA s a]=2
  ·cases op with
   | true =>
    rw [zgU (by rw [zdw hp];exact decide_eq_true h2)] at h;simp only [Option.some.injEq,Prod.mk.injEq] at h;exact .inr (.inl ⟨rfl,h.1.symm,h.2.1.symm,h.2.2.symm⟩)
   | false =>
    rw [zhN hp h2] at h;exact .inr (.inr ⟨rfl,hp,h⟩)
  ·rw [zjC hp h2] at h;simp only [Option.some.injEq,Prod.mk.injEq] at h;exact .inl ⟨hp,h.1.symm,h.2.1.symm,h.2.2.symm⟩
 ·cases op with
  | true =>
   rw [zgU (zhl (by omega))] at h;simp only [Option.some.injEq,Prod.mk.injEq] at h;exact .inr (.inl ⟨rfl,h.1.symm,h.2.1.symm,h.2.2.symm⟩)
  | false=>rw [zhM (by omega)] at h;cases h
theorem zd8 {s:List UInt8} {t:Tok} {a':Nat} {op':Bool}:∀ {f a:Nat} {op:Bool},zcs s f a op=some (t,a',op')->a<=s.length ->
  a'<=s.length/\2*(s.length-a')+bOp op'<2*(s.length-a)+bOp op/\(t.kind=3->t.text≠[])/\t.text.length<=s.length
 | 0,_,_,h,_=>by cases h
 | f+1,a,op,h,ha=>by
  have hpa:=zlK (s:=s) (a:=a);have hpl:=zlJ ha;rcases zky h with ⟨hl,rfl,rfl,rfl⟩ | ⟨rfl,rfl,rfl,rfl⟩ | ⟨rfl,hl,h'⟩
  ·obtain⟨e1,e2⟩:=zmo hl s[zaA s a];refine⟨e2,?_,fun _=>?_,?_⟩
   ·have:bOp true=1:=rfl;omega
   ·intro he;have h1:((s.drop (zaA s a)).take (endL s (zaA s a) s[zaA s a]-zaA s a)).length=0:=by
     have:(tokL s (zaA s a) s[zaA s a]).text=[]:=he;exact congrArg List.length this
    rw [List.length_take,List.length_drop] at h1;omega
   ·show ((s.drop (zaA s a)).take _).length<=_;rw [List.length_take,List.length_drop];omega
  ·refine⟨Nat.min_le_right _ _,?_,fun h=>(by cases h),Nat.zero_le _⟩;have h1:bOp true=1:=rfl;have h0:bOp false=0:=rfl;omega
  ·obtain⟨h1,h2,h3⟩:=zd8 h' (Nat.min_le_right _ _);refine⟨h1,?_,h3⟩;omega
theorem zhs {s:List UInt8} {f a a':Nat} {op op':Bool} {t:Tok} (h:zcs s (s.length+2) a op=some (t,a',op')):zen s (f+1) a op=t::zen s f a' op':=by
 show (match zcs s (s.length+2) a op with
  | some (t,a',op')=>t::zen s f a' op'
  | none=>[])=_
 rw [h]
theorem zhr {s:List UInt8} {f a:Nat} {op:Bool} (h:zcs s (s.length+2) a op=none):zen s (f+1) a op=[]:=by
 show (match zcs s (s.length+2) a op with
  | some (t,a',op')=>t::zen s f a' op'
  | none=>[])=_
 rw [h]
def StT (pre:List Tok) (vs:List Value) (_:World):Prop:=∃ t,pre.getLast?=some t/\vs=[.agg (tokE.enc t).toArray,i64 (zbs t)]
theorem zne {g:Nat} {w:World}:Calls Tryz.prog 181 #[At0 g] w fun e w'=>e = .returned (.func (.func 237) #[] #[.pointer (some ⟨w.heap.size,0,none⟩)])/\w'=w.alloc (.cells #[At0 g] 327):=by
 refine cofE 4 [At0 g] Tryz.func181 ?_;exact⟨rfl,rfl⟩
theorem zlc {g bx:Nat} {s:List UInt8} {W0:World} (h:ScV W0 g s 0 false) (hbx:W0.heap[bx]?=some (.cells #[At0 g] 327 (0,0))) (hne:bx≠g) (hs:s.length<=140737488351232) :
  zrI Tryz.prog 237 [At0 bx] (zbg s) W0 (fun k=>k=bx) (fun k=>k=g) StT:=by
 intro yl Fp J Jx W hsz hrd hrf hJ hJx hy h0;have hbW:W.heap[bx]?=some (.cells #[At0 g] 327 (0,0)):=(hrd bx (.inl rfl)).trans hbx;have hgW:ScV W g s 0 false:=(hrd g (.inr rfl)).trans h;have hbs:bx<W0.heap.size:=hlt hbx;have hgs:g<W0.heap.size:=hlt h;refine cofE 23 [.func (.yield yl) #[] #[],At0 bx] Tryz.func237 ?_
 let Inv:List Tok->World->Prop:=fun pre X=>J pre X/\W.heap.size<=X.heap.size/\X.heap[bx]?=some (.cells #[At0 g] 327 (0,0))/\¬ Fp X bx
 have stepG:∀ pre X Y,Inv pre X->X.grownBy Y (some g)->Inv pre Y/\∀ k,Fp Y k->Fp X k:=fun pre X Y ⟨h1,h2,h3,h4⟩ hg=>by
  have hst:StepO W.heap.size (fun k=>k=g) Fp X Y:=⟨hg.os,hg.tape,hg.output,hg.size,fun k hk hf=>hg.block k hk (fun e=>by
   have e:g=k:=(by simpa using e:k=g).symm;rcases hf with hf | hf
   ·exact hf.2 e.symm
   ·exact (hJ.lt _ _ _ h1 hf).2 e.symm)⟩
  obtain⟨j1,j2⟩:=hJ.step _ _ _ h1 hst;refine⟨⟨j1,Nat.le_trans h2 hg.size,(hg.block _ (hlt h3) (fun e=>hne (by simpa using e))).trans h3,fun hf=>h4 (j2 _ hf)⟩,j2⟩
 have stepB:∀ pre X Y,Inv pre X->Bw X Y->Inv pre Y/\∀ k,Fp Y k->Fp X k:=fun pre X Y hI hb=>stepG pre X Y hI (zah hb);have I0:Inv [] W:=⟨h0,Nat.le_refl _,hbW,hrf bx rfl⟩;refine⟨_,zac (zaa hbW) (i:=0) rfl,?_⟩;refine cmo (zoz hgW (Nat.zero_le _) hs) ?_;rintro e Y ⟨t,a,op,ok,rfl,hok,hno,ha,hY,gY⟩;obtain⟨I1,_⟩:=stepG [] W Y I0 gY;refine zap (X:=Y) (v := .agg (tokE.enc t).toArray) k190 rfl rfl rfl fun Z hbZ fZ sZ=>?_;have fZ:Z.heap[Y.heap.size]?=some (.cells (tokE.enc t).toArray 190 (0,0)):=fZ;obtain⟨I2,q2⟩:=stepB [] Y Z I1 hbZ;refine⟨List Tok×Nat×Nat×Bool×Bool×Tok×Nat,fun q=>⟨[(0,.func (.yield yl) #[] #[]),(1,At0 bx),(3,.pointer (some ⟨q.2.2.2.2.2.2,0,none⟩)),(4,.bool q.2.2.2.2.1)],[]⟩,
  fun q X=>Inv q.1 X/\(q.2.2.2.2.1=true->zbg s=q.1++q.2.2.2.2.2.1::zen s q.2.1 q.2.2.1 q.2.2.2.1)/\(q.2.2.2.2.1=false->zbg s=q.1)/\(q.2.2.2.2.1=true->2*(s.length-q.2.2.1)+bOp q.2.2.2.1<q.2.1)/\q.2.2.1<=s.length/\ScV X g s q.2.2.1 q.2.2.2.1 /\
   X.heap[q.2.2.2.2.2.2]?=some (.cells (tokE.enc q.2.2.2.2.2.1).toArray 190 (0,0))/\W.heap.size<=q.2.2.2.2.2.2/\¬ Fp X q.2.2.2.2.2.2/\(q.2.2.2.2.1=true->(q.2.2.2.2.2.1.kind=3->q.2.2.2.2.2.1.text≠[])/\q.2.2.2.2.2.1.text.length<=s.length),
  fun q=>q.2.1,([],2*s.length+2,a,op,ok,t,Y.heap.size),(cvE rfl rfl),⟨I2,?_,?_,?_,ha,hY.below hbZ,fZ,gY.size,?_,?_⟩,?_⟩
 ·intro h1;exact zhs (hok h1)
 ·intro h1;exact zhr (hno h1)
 ·intro h3;have:=(zd8 (hok h3) (Nat.zero_le _)).2.1;have h0:bOp false=0:=rfl;dsimp only;omega
 ·intro hf;have h9:Y.heap.size<Y.heap.size:=(hJ.lt _ _ _ I1.1 (q2 _ hf)).1;omega
 ·intro h1;exact (zd8 (hok h1) (Nat.zero_le _)).2.2
 clear I2 q2 fZ hbZ sZ I1 gY hY hok hno ha;rintro⟨pre,f,a,op,ok,t,tb⟩ X ⟨hI,h1,h2,hf,ha,hX,ft,htb,hft,hgd⟩;dsimp only at hI h1 h2 hf ha hX ft htb hft hgd ⊢;refine biE (fun hok=>?_) fun hok=>?_
 ·have hok:ok=true:=hok;subst hok;have h1:=h1 rfl;have hf:=hf rfl;obtain⟨g1,g2⟩:=hgd rfl;have hpre:(pre++[t]) <+: zbg s:=⟨zen s f a op,by rw [h1];simp⟩;refine DrawE.ord [4] [0,1,2,3,4,5] (by kernel_rfl) ?_;refine⟨_,rfl,zaa (hdr ft),hlt (hdr ft),?_⟩;refine⟨_,rfl,zaa (hdr ft),hlt (hdr ft),?_⟩;refine cmo (zpK t g1 (by omega) X.drew) ?_;rintro e U ⟨rfl,hbU⟩;refine⟨hbU,?_⟩;have hXU:Bw X U:=(Below.refl _ X).drew.trans hbU;obtain⟨IU,qU⟩:=stepB pre X U hI hXU;have fU:=zab hXU ft;have hU:=hX.below hXU;have hftU:¬ Fp U tb:=fun h=>hft (qU _ h);refine YieldR.mono (hy pre t _ U IU.1 ⟨t,by simp,rfl⟩ hpre) ?_;rintro v V (⟨rfl,hJV,hKV⟩ | ⟨rfl,hJV⟩)
  ·refine And.intro (fun h=>by cases h) (fun _=>?_);have IU':=IU;obtain⟨_,iu2,iu3,iu4⟩:=IU';have hUs:=hKV.size;have hgF:¬ Fp U g:=fun h=>(hJ.lt _ _ _ IU.1 h).2 rfl;have hbV:V.heap[bx]?=_:=(hKV.same bx (hlt iu3) iu4).trans iu3;have hV:ScV V g s a op:=(hKV.same g (hlt hU) hgF).trans hU;have fV:=(hKV.same tb (hlt fU) hftU).trans fU;have nF:∀ k,k<U.heap.size->¬ Fp U k->¬ Fp V k:=fun k hk h1 h2=>by
    rcases hKV.fp k h2 with h3 | h3
    ·exact h1 h3
    ·omega
   have IV:Inv (pre++[t]) V:=⟨hJV,by omega,hbV,nF bx (hlt iu3) iu4⟩;refine⟨_,rfl,zaa fV,hlt fV,?_⟩;refine zap (X:=V) (v := .agg (tokE.enc t).toArray) k190 rfl rfl rfl fun R hbR fR sR=>?_;have fR:R.heap[V.heap.size]?=some (.cells (tokE.enc t).toArray 190 (0,0)):=fR;obtain⟨IR,qR⟩:=stepB (pre++[t]) V R IV hbR;have hnR:¬ Fp R V.heap.size:=fun h=>by have:=(hJ.lt _ _ _ IV.1 (qR _ h)).1;omega
   refine⟨_,zac (zaa IR.2.2.1) (i:=0) rfl,?_⟩;refine cmo (zoz (hV.below hbR) ha hs) ?_;rintro e L ⟨t',a',op',ok',rfl,hok',hno',ha',hL,gL⟩;obtain⟨IL,qL⟩:=stepG (pre++[t]) R L IR gL;have hVs:W.heap.size<=V.heap.size:=IV.2.1;have hgV:g≠V.heap.size:=by omega
   have hbV2:bx≠V.heap.size:=by omega
   have fL:L.heap[V.heap.size]?=some (.cells (tokE.enc t).toArray 190 (0,0)):=(gL.block _ (hlt fR) (fun e=>hgV (by simpa using e.symm))).trans fR;refine zam (v := .agg (tokE.enc t').toArray) k190 fL rfl rfl rfl ?_;obtain⟨f',rfl⟩:∃ f',f=f'+1:=⟨f-1,by omega⟩;have hnL:¬ Fp L V.heap.size:=fun h=>hnR (qL _ h);have hst:StepO W.heap.size (fun k=>k=g) Fp L (L.setRow V.heap.size (Value.agg (tokE.enc t').toArray).cells):=⟨rfl,rfl,rfl,by simp,fun k hk hf=>zao (fun e=>by
    subst e;rcases hf with hf | hf
    ·omega
    ·exact hnL hf)⟩
   obtain⟨j1,j2⟩:=hJ.step _ _ _ IL.1 hst;refine⟨(pre++[t],f',a',op',ok',t',V.heap.size),(cvE rfl rfl),⟨⟨j1,by simp;exact IL.2.1,(zao hbV2).trans IL.2.2.1,fun h=>IL.2.2.2 (j2 _ h)⟩,?_,?_,?_,ha',(zao hgV).trans hL,zaj fL,hVs,fun h=>hnL (j2 _ h),?_⟩,by show f'<f'+1;omega⟩
   ·intro h3;rw [h1];show pre++t::zen s (f'+1) a op=(pre++[t])++_;rw [zhs (hok' h3)];simp
   ·intro h3;rw [h1];show pre++t::zen s (f'+1) a op=pre++[t];rw [zhr (hno' h3)]
   ·intro h3;have:=(zd8 (hok' h3) ha).2.1;dsimp only;omega
   ·intro h3;exact (zd8 (hok' h3) ha).2.2
  ·refine And.intro (fun _=>?_) (fun h=>by cases h);exact And.intro ⟨_,rfl⟩ (.inr ⟨_,hpre,hJV⟩)
 ·have hok:ok=false:=hok;subst hok;have h2:=h2 rfl;exact⟨⟨_,rfl⟩,.inl (by rw [h2];exact hI.1)⟩
def zfJ (s:List UInt8):Bool:=decide (s.length<=16384)&&(zbg s).all (fun t=>decide (zbs t=0))
theorem zjk {s:List UInt8}:∀ {f a:Nat} {op:Bool},(zen s f a op).length<=f
 | 0,_,_=>Nat.le_refl _
 | f+1,a,op=>by
  unfold zen
  split
  ·exact Nat.succ_le_succ zjk
  ·exact Nat.zero_le _
def FpX (L:Nat) (X:World) (k:Nat):Prop:=k=L\/k=L+1\/k=L+2\/∃ a n cap,X.heap[L]?=some (.cells #[.slice (some a) n cap] 185 (0,0))/\k=a.block
structure ResX (L:Nat) (X:World) (v:Value) (pl er:Int):Prop where
 l:X.heap[L]?=some (.cells #[v] 185 (0,0))
 p:X.heap[L+1]?=some (.cells #[i64 pl] 3 (0,0))
 e:X.heap[L+2]?=some (.cells #[i64 er] 52 (0,0))
def JX (w:World) (L B:Nat) (pre:List Tok) (X:World):Prop:=Bw w X/\(∀ t∈pre,zbs t=0)/\∃ p cap,ResX L X (.slice p pre.length cap) 0 0/\OwnS tokE 190 B X p cap pre
def JxX (w:World) (L:Nat) (pre:List Tok) (X:World):Prop:=Bw w X/\(∃ t∈pre,zbs t≠0)/\∃ pl er,ResX L X (.slice none 0 0) pl er/\er≠0
theorem FpX.row {L:Nat} {X:World} {p:Option Addr} {n cap:Nat} {pl er:Int} (h:ResX L X (.slice p n cap) pl er) {k:Nat} (hf:FpX L X k):k=L\/k=L+1\/k=L+2\/∃ a,p=some a/\k=a.block:=by
 rcases hf with hf | hf | hf | ⟨a,n',cap',h1,h2⟩
 ·exact .inl hf
 ·exact .inr (.inl hf)
 ·exact .inr (.inr (.inl hf))
 ·have:=h.l;rw [h1] at this;simp at this;exact .inr (.inr (.inr ⟨a,this.1.symm,h2⟩))
theorem ResX.same {L:Nat} {A B:World} {v:Value} {pl er:Int} (h:ResX L A v pl er) (hs:∀ k,k=L\/k=L+1\/k=L+2->B.heap[k]?=A.heap[k]?):ResX L B v pl er :=
 ⟨(hs L (.inl rfl)).trans h.l,(hs _ (.inr (.inl rfl))).trans h.p,(hs _ (.inr (.inr rfl))).trans h.e⟩
theorem JX.iter {w:World} {L B n0 g:Nat} (hw:w.heap.size<=L) (hL:L+2<g) (hg:g<n0) (hB:B=n0):IterJO n0 (fun k=>k=g) (FpX L) (JX w L B):=by
 subst hB;refine⟨fun pre A C ⟨hb,hf,p,cap,hr,ho⟩ hs=>?_,fun pre A k ⟨hb,hf,p,cap,hr,ho⟩ hk=>?_⟩
 ·have hr':ResX L C (.slice p pre.length cap) 0 0:=hr.same fun k hk=>hs.same k (by rcases hk with rfl | rfl | rfl;exact hlt hr.l;exact hlt hr.p;exact hlt hr.e) (.inl ⟨by omega,by omega⟩);have hrow:∀ a,p=some a->C.heap[a.block]?=A.heap[a.block]?:=fun a ha=>by
   rcases ho.inv with ⟨rfl,_⟩ | ⟨g',cur,rfl,_,hg',_⟩
   ·cases ha
   ·cases ha
    exact hs.same _ (hlt hg') (.inr (.inr (.inr (.inr ⟨_,_,_,hr.l,rfl⟩))))
  refine⟨⟨⟨hs.os.trans hb.os,hs.tape.trans hb.tape,hs.output.trans hb.output,Nat.le_trans hb.size hs.size,fun k hk=>(hs.same k (nL hk hb.size) (.inl ⟨by omega,by omega⟩)).trans (hb.block k hk)⟩,hf,p,cap,hr',ho.same hrow⟩,fun k hk=>?_⟩;rcases FpX.row hr' hk with rfl | rfl | rfl | ⟨a,rfl,rfl⟩
  ·exact .inl rfl
  ·exact .inr (.inl rfl)
  ·exact .inr (.inr (.inl rfl))
  ·exact .inr (.inr (.inr ⟨_,_,_,hr.l,rfl⟩))
 ·rcases FpX.row hr hk with rfl | rfl | rfl | ⟨a,rfl,rfl⟩
  ·exact⟨hlt hr.l,by omega⟩
  ·exact⟨hlt hr.p,by omega⟩
  ·exact⟨hlt hr.e,by omega⟩
  ·rcases ho.inv with ⟨h,_⟩ | ⟨g',cur,h,hB,hg',_⟩
   ·cases h
   ·cases h
    exact⟨hlt hg',by show ¬ g'=g;omega⟩
theorem JxX.iter {w:World} {L n0 g:Nat} (hw:w.heap.size<=L) (hL:L+2<g) (hg:g<n0):IterJO n0 (fun k=>k=g) (FpX L) (JxX w L):=by
 refine⟨fun pre A C ⟨hb,hf,pl,er,hr,he⟩ hs=>?_,fun pre A k ⟨hb,hf,pl,er,hr,he⟩ hk=>?_⟩
 ·have hr':ResX L C (.slice none 0 0) pl er:=hr.same fun k hk=>hs.same k (by rcases hk with rfl | rfl | rfl;exact hlt hr.l;exact hlt hr.p;exact hlt hr.e) (.inl ⟨by omega,by omega⟩);refine⟨⟨⟨hs.os.trans hb.os,hs.tape.trans hb.tape,hs.output.trans hb.output,Nat.le_trans hb.size hs.size,fun k hk=>(hs.same k (nL hk hb.size) (.inl ⟨by omega,by omega⟩)).trans (hb.block k hk)⟩,hf,pl,er,hr',he⟩,fun k hk=>?_⟩;rcases FpX.row hr' hk with rfl | rfl | rfl | ⟨a,h,_⟩
  ·exact .inl rfl
  ·exact .inr (.inl rfl)
  ·exact .inr (.inr (.inl rfl))
  ·cases h
 ·rcases FpX.row hr hk with rfl | rfl | rfl | ⟨a,h,_⟩
  ·exact⟨hlt hr.l,by omega⟩
  ·exact⟨hlt hr.p,by omega⟩
  ·exact⟨hlt hr.e,by omega⟩
  ·cases h
abbrev nl0:Value := .slice none 0 0
theorem zsd (s:List UInt8) (hs:s.length<=140737488351232) (w:World) :
  Calls Tryz.prog 125 #[strV s] w fun e w'=>∃ p cap n pl er,e = .returned (.tuple #[.slice p n cap,i64 pl,i64 er])/\(zfJ s=true->er=0/\n=(zbg s).length/\SlR tokE w' p (zbg s))/\(zfJ s=false->er≠0)/\Bw w w':=by
 refine cofM 27 [strV s] (.c .p (.c .p .p)) Tryz.func125 ?_;obtain⟨L,hL⟩:=nm (w.heap.size);have z1:(w.alloc (.cells #[nl0] 185)).heap.size=L+1:=by rw [wz,hL]
 have z2:((w.alloc (.cells #[nl0] 185)).alloc (.cells #[i64 0] 3)).heap.size=L+2:=by rw [wz,z1]
 obtain⟨W0,hW0⟩:=nm (((w.alloc (.cells #[nl0] 185)).alloc (.cells #[i64 0] 3)).alloc (.cells #[i64 0] 52));have hb0:Bw w W0:=by rw [hW0];exact (((zba _ _)).alloc (by simp) _).alloc (by rw [z2];omega) _
 have hs0:W0.heap.size=L+3:=by rw [hW0,wz,z2]
 have r0:ResX L W0 nl0 0 0:=by
  rw [hW0];refine⟨?_,?_,?_⟩
  ·rw [hL];exact hold _ (hold _ (hnew w _))
  ·rw [<- z1];exact hold _ (hnew _ _)
  ·rw [<- z2];exact hnew _ _
 have p1:some (Value.pointer (some ⟨(w.alloc (.cells #[nl0] 185)).heap.size,0,none⟩))=some (At0 (L+1)):=by rw [z1]
 have p2:some (Value.pointer (some ⟨((w.alloc (.cells #[nl0] 185)).alloc (.cells #[i64 0] 3)).heap.size,0,none⟩))=some (At0 (L+2)):=by rw [z2]
 have put3:∀ (X:World) (v0:Value) (a0 b0:Int),ResX L X v0 a0 b0->∀ (pl er:Int) (K:World->Prop),(∀ Y,ResX L Y (.slice none 0 0) pl er->Below w.heap.size X Y->X.heap.size=Y.heap.size->(∀ k,k≠L->k≠L+1->k≠L+2->Y.heap[k]?=X.heap[k]?)->K Y) ->
   SatR ((storeVar 185 ⟨L,0,none⟩ (.slice none 0 0)).run Tryz.prog X) fun _ Y1=>SatR ((storeVar 3 ⟨L+1,0,none⟩ (i64 pl)).run Tryz.prog Y1) fun _ Y2=>SatR ((storeVar 52 ⟨L+2,0,none⟩ (i64 er)).run Tryz.prog Y2) fun _ Y3=>K Y3:=by
  intro X v0 a0 b0 hr pl er K k;refine zam (v := .slice none 0 0) k185 hr.l rfl rfl rfl ?_;have q1:(X.setRow L (Value.slice none 0 0).cells).heap[L+1]?=some (.cells #[i64 a0] 3 (0,0)):=(zao (by omega)).trans hr.p;refine zam (v:=i64 pl) k3 q1 rfl rfl rfl ?_;have q2:((X.setRow L (Value.slice none 0 0).cells).setRow (L+1) (i64 pl).cells).heap[L+2]?=some (.cells #[i64 b0] 52 (0,0)):=(zao (by omega)).trans ((zao (by omega)).trans hr.e);refine zam (v:=i64 er) k52 q2 rfl rfl rfl ?_;refine k _ ⟨?_,?_,zaj q2⟩ ?_ (by simp) ?_
  ·exact (zao (by omega)).trans ((zao (by omega)).trans (zaj hr.l))
  ·exact (zao (by omega)).trans (zaj q1)
  ·exact zag (zag (zag (Below.refl _ X) (by omega) _) (by omega) _) (by omega) _
  ·intro k h1 h2 h3;exact (zao h3).trans ((zao h2).trans (zao h1))
 refine⟨Unit,fun _=>⟨[(0,strV s),(2,At0 L),(3,At0 (L+1)),(4,At0 (L+2))],[]⟩,fun _ X=>W0=X,?_,?_⟩
 ·exact⟨(),⟨.cons rfl (.cons (by rw [hL];rfl) (.cons p1 (.cons p2 .nil))),rfl⟩,hW0⟩
 clear hW0 p1 p2 z1 z2;rintro _ _ rfl;refine⟨Unit,fun _=>⟨[(0,strV s),(2,At0 L),(3,At0 (L+1)),(4,At0 (L+2))],[]⟩,fun _ X=>s.length<=16384/\W0=X,?_,?_⟩
 ·refine biE (fun h=>?_) fun h=>?_
  ·have h:(16384:Int)<(s.length:Int):=dT h;have hno:zfJ s=false:=by unfold zfJ;rw [decide_eq_false (by omega)];rfl
   refine put3 W0 _ _ _ r0 0 3 _ fun Y hY hb hsz _=>?_;refine⟨_,zac (zaa hY.l) (i:=0) rfl,?_⟩;refine⟨_,zac (zaa hY.p) (i:=0) rfl,?_⟩;refine⟨_,zac (zaa hY.e) (i:=0) rfl,?_⟩;exact⟨none,0,0,0,3,rfl,fun h=>(by rw [hno] at h;cases h),fun _=>by decide,hb0.trans hb⟩
  ·have h:¬ (16384:Int)<(s.length:Int):=dF h;exact⟨(),(cvE rfl rfl),by omega,rfl⟩
 rintro _ _ ⟨hln,rfl⟩;refine⟨[strV s,i64 0],rfl,?_⟩;refine⟨[strV s,i64 0,.bool false],rfl,?_⟩;refine zap (X:=W0) (v := .agg #[strV s,i64 0,.bool false]) k262 rfl rfl rfl fun V hbV fV sV=>?_;have hV:ScV V W0.heap.size s 0 false:=fV;refine cmo zne ?_;rintro e W1 ⟨rfl,hW1⟩;have sW1:W1.heap.size=W0.heap.size+2:=by rw [hW1,wz,sV]
 have hb1:Bw V W1:=by rw [hW1];exact (zba _ _)
 have hbx:W1.heap[W0.heap.size+1]?=some (.cells #[.pointer (some ⟨W0.heap.size,0,none⟩)] 327 (0,0)):=by
  rw [hW1,<- sV];exact hnew V _
 have hg1:ScV W1 W0.heap.size s 0 false:=hV.below hb1;have hb01:Bw W0 W1:=zst hbV hb1;have hbw1:Bw w W1:=zst hb0 hb01;have r1:ResX L W1 nl0 0 0:=r0.same fun k hk=>hb01.block k (by omega);have hlen:(zbg s).length<=40000:=Nat.le_trans zjk (by omega);have hok1:(∀ t∈zbg s,zbs t=0)->zfJ s=true:=fun h=>by
  unfold zfJ;rw [decide_eq_true hln,Bool.true_and,List.all_eq_true];exact fun t ht=>decide_eq_true (h t ht)
 have hok2:(∃ t∈zbg s,zbs t≠0)->zfJ s=false:=fun ⟨t,ht,hf⟩=>by
  unfold zfJ;rw [decide_eq_true hln,Bool.true_and,List.all_eq_false];exact⟨t,ht,by simpa using hf⟩
 rw [sV];refine zqM (sgOk _) rfl (lb := #[.pointer (some ⟨W0.heap.size+1,0,none⟩)]) rfl rfl (zlc hg1 hbx (by omega) hs) (Nat.le_refl _) (fun k hk=>⟨by rcases hk with rfl | rfl <;> omega,rfl⟩) (fun pre vs W ⟨t,_,h⟩=>by rw [h];rfl) (by decide)
  (FpX L) (JX w L W1.heap.size) (fun ex pre X=>ex = .ret/\JxX w L pre X) ?_ (JX.iter (by omega) (by omega) (by omega) rfl) (fun ex=>?_) ?_ ?_ ?_ ?_
 ·intro k hk hf;rcases FpX.row r1 hf with h | h | h | ⟨a,h,_⟩
  ·omega
  ·omega
  ·omega
  ·cases h
 ·have hJ:=JxX.iter (w:=w) (L:=L) (n0:=W1.heap.size) (g:=W0.heap.size) (by omega) (by omega) (by omega);exact⟨fun pre A C ⟨h1,h2⟩ hs=>⟨⟨h1,(hJ.step _ _ _ h2 hs).1⟩,(hJ.step _ _ _ h2 hs).2⟩,fun pre A k ⟨_,h2⟩ hf=>hJ.lt _ _ _ h2 hf⟩
 ·exact⟨hbw1,fun t ht=>(by cases ht),none,0,r1,.nil⟩
 ·intro yl pre x vs W hyl hpre hJ hst hfy hly;obtain⟨t,ht,rfl⟩:=hst;have ht:t=x:=by simpa using ht.symm
  subst ht;have hIt:=JX.iter (w:=w) (L:=L) (B:=W1.heap.size) (n0:=W1.heap.size) (g:=W0.heap.size) (by omega) (by omega) (by omega) rfl;refine zap (X:=W) (v := .agg (tokE.enc t).toArray) k190 rfl rfl rfl fun R hbR fR sR=>?_;have fR:R.heap[W.heap.size]?=some (.cells (tokE.enc t).toArray 190 (0,0)):=fR;obtain⟨jR,qR⟩:=hIt.step pre W R hJ (Step.of_below hbR).o;refine⟨rfl,Keeps.of_below hbR (fun k hk => .inl (qR k hk)),jR,?_⟩;rintro o W2 hW2 ⟨hbW,hfl,p,cap,hr,ho⟩ hF2;have f2:W2.heap[W.heap.size]?=some (.cells (tokE.enc t).toArray 190 (0,0)):=by rw [hW2,zai (by omega)];exact fR
  have s2:W2.heap.size=R.heap.size:=by rw [hW2];simp [World.putObj]
  have hLW:W1.heap.size<=W.heap.size:=by
   have:=hlt hr.l;obtain⟨hbW',_⟩:=hJ;omega
  refine biE (fun h=>?_) fun h=>?_
  ·have h:zbs t≠0:=by
    have h1:(!decide (zbs t=0))=true:=h;simpa using h1
   have hrd:ResX L W2.drew (.slice p pre.length cap) 0 0:=⟨hr.l,hr.p,hr.e⟩;have hd:W2.drew.heap.size=W2.heap.size:=rfl;have fin:∀ Y,ResX L Y (.slice none 0 0) t.pos (zbs t)->Below w.heap.size W2.drew Y->W2.drew.heap.size=Y.heap.size->(∀ k,k≠L->k≠L+1->k≠L+2->Y.heap[k]?=W2.drew.heap[k]?)->(Exit.ret=Exit.ret/\JxX w L (pre++[t]) Y)/\Keeps (FpX L) W2 Y:=fun Y hY hbY hsY hoY=>by
    have hbY2:Bw w Y:=hbW.trans ((Below.refl w.heap.size W2).drew.trans hbY);refine⟨⟨rfl,hbY2,⟨t,by simp,h⟩,_,_,hY,h⟩,?_⟩;refine⟨hbY.os,hbY.tape,hbY.output,by rw [<- hsY,hd];exact Nat.le_refl _,fun k hk hf=>hoY k (fun e=>hf (.inl e)) (fun e=>hf (.inr (.inl e))) (fun e=>hf (.inr (.inr (.inl e)))),fun k hk=>?_⟩;rcases FpX.row hY hk with h1 | h1 | h1 | ⟨a,h1,_⟩
    ·exact .inl (.inl h1)
    ·exact .inl (.inr (.inl h1))
    ·exact .inl (.inr (.inr (.inl h1)))
    ·cases h1
   refine DrawE.treeQ [3,4,5] (.op 0 (.op 2 (.alt (.op 3 (.op 1 (.op 4 (.op 5 .nil)))) (.op 1 (.op 3 (.op 4 (.op 5 .nil))))))) (by kernel_rfl) ?_;refine And.intro ?_ ?_
   ·refine zam (v := .slice none 0 0) k185 hrd.l rfl rfl rfl ?_;have q0:(W2.drew.setRow L (Value.slice none 0 0).cells).heap[W.heap.size]?=some (.cells (tokE.enc t).toArray 190 (0,0)):=(zao (by omega)).trans (hdr f2);refine⟨_,zac (zaa q0) (i:=2) rfl,?_⟩;have q1:(W2.drew.setRow L (Value.slice none 0 0).cells).heap[L+1]?=some (.cells #[i64 0] 3 (0,0)):=(zao (by omega)).trans hrd.p;refine zam (v:=i64 t.pos) k3 q1 rfl rfl rfl ?_;have q2:((W2.drew.setRow L (Value.slice none 0 0).cells).setRow (L+1) (i64 t.pos).cells).heap[L+2]?=some (.cells #[i64 0] 52 (0,0)):=(zao (by omega)).trans ((zao (by omega)).trans hrd.e);refine zam (v:=i64 (zbs t)) k52 q2 rfl rfl rfl ?_;refine fin _ ⟨?_,?_,zaj q2⟩ ?_ (by simp) ?_
    ·exact (zao (by omega)).trans ((zao (by omega)).trans (zaj hrd.l))
    ·exact (zao (by omega)).trans (zaj q1)
    ·exact zag (zag (zag (Below.refl _ W2.drew) (by omega) _) (by omega) _) (by omega) _
    ·intro k h1 h2 h3;exact (zao h3).trans ((zao h2).trans (zao h1))
   ·refine⟨_,zac (zaa (hdr f2)) (i:=2) rfl,?_⟩;exact put3 W2.drew _ _ _ hrd t.pos (zbs t) _ fin
  ·have h:zbs t=0:=by
    have h1:(!decide (zbs t=0))=false:=h;simpa using h1
   refine⟨_,zac (zaa hr.l) (i:=0) rfl,?_⟩;refine⟨_,rfl,zaa f2,hlt f2,?_⟩;refine⟨⟨by decide,by decide,rfl⟩,tokE.enc t,zce (tokE.len t) rfl,?_⟩;have hpl:pre.length+1<=40000:=by
    have:=hpre.length_le;simp at this;omega
   refine zbi (E:=tokE) (news:=[t]) (B:=W1.heap.size) Tryz.underlying185 k190 rfl rfl rfl (ho.alloc _) rfl (zaW tokE t) (by simp;omega) (by show pre.length+1<=_;omega) (by show (pre.length+1)*32<=_;omega) ?_;intro p3 cap3 W4 ho4 hg4 hb4 hat;have hL2:L<W2.heap.size:=hlt hr.l;have hr3:ResX L (W2.alloc (.cells (tokE.enc t).toArray 190)) (.slice p pre.length cap) 0 0:=⟨hold _ hr.l,hold _ hr.p,hold _ hr.e⟩;have hr4:ResX L W4 (.slice p pre.length cap) 0 0:=hr3.same fun k hk=>hb4.block k (by omega);refine zam (v := .slice p3 (pre++[t]).length cap3) k185 hr4.l rfl rfl rfl ?_;have hr5:ResX L (W4.setRow L (Value.slice p3 (pre++[t]).length cap3).cells) (.slice p3 (pre++[t]).length cap3) 0 0:=⟨zaj hr4.l,(zao (by omega)).trans hr4.p,(zao (by omega)).trans hr4.e⟩;have hbB:Below w.heap.size W2 (W4.setRow L (Value.slice p3 (pre++[t]).length cap3).cells) :=
    zag (((Below.refl _ W2).alloc (by omega) _).trans (hb4.mono (by omega))) (by omega) _
   refine And.intro ⟨hbW.trans hbB,fun u hu=>?_,p3,cap3,hr5,ho4.same fun a ha=>?_⟩ ⟨hbB.os,hbB.tape,hbB.output,hbB.size,fun k hk hf=>?_,fun k hk=>?_⟩
   ·rcases List.mem_append.1 hu with hu | hu
    ·exact hfl u hu
    ·simp only [List.mem_singleton] at hu;rw [hu];exact h
   ·refine zao ?_;rcases ho4.inv with ⟨h1,_⟩ | ⟨g',_,h1,h2,_⟩
    ·rw [h1] at ha;cases ha
    ·rw [h1] at ha;cases ha;dsimp only;omega
   ·have h1:k≠L:=fun e=>hf (.inl e);rw [zao h1];refine (hg4.block k (by simp;omega) ?_).trans ?_
    ·intro e
     cases p with
     | none=>simp [Value.ownBlock] at e
     | some a =>
      simp only [Value.ownBlock,Option.some.injEq] at e;exact hf (.inr (.inr (.inr ⟨a,_,_,hr.l,e⟩)))
    ·show (W2.heap.push _)[k]?=_;rw [Array.getElem?_push,if_neg (Nat.ne_of_lt hk)]
   ·rcases FpX.row hr5 hk with h1 | h1 | h1 | ⟨a,ha,rfl⟩
    ·exact .inl (.inl h1)
    ·exact .inl (.inr (.inl h1))
    ·exact .inl (.inr (.inr (.inl h1)))
    ·rcases hat a ha with h1 | h1
     ·exact .inl (.inr (.inr (.inr ⟨a,_,_,h1▸hr.l,rfl⟩)))
     ·refine .inr ?_;rw [h1];simp
 ·intro D W hD hfD hJ hdef;obtain⟨hbW,hfl,p,cap,hr,ho⟩:=hJ;refine⟨_,zac (zaa hr.l) (i:=0) rfl,?_⟩;refine zam (v := .slice p (zbg s).length cap) k185 hr.l rfl rfl rfl ?_;have q1:(W.setRow L (Value.slice p (zbg s).length cap).cells).heap[L+1]?=some (.cells #[i64 0] 3 (0,0)):=(zao (by omega)).trans hr.p;refine zam (v:=i64 0) k3 q1 rfl rfl rfl ?_;have q2:((W.setRow L (Value.slice p (zbg s).length cap).cells).setRow (L+1) (i64 0).cells).heap[L+2]?=some (.cells #[i64 0] 52 (0,0)):=(zao (by omega)).trans ((zao (by omega)).trans hr.e);refine zam (v:=i64 0) k52 q2 rfl rfl rfl ?_;obtain⟨S,hS⟩:=nm (((W.setRow L (Value.slice p (zbg s).length cap).cells).setRow (L+1) (i64 0).cells).setRow (L+2) (i64 0).cells);have rS:ResX L S (.slice p (zbg s).length cap) 0 0:=by
   rw [hS];exact⟨(zao (by omega)).trans ((zao (by omega)).trans (zaj hr.l)),(zao (by omega)).trans (zaj q1),zaj q2⟩
  have bS:Below w.heap.size W S:=by rw [hS];exact zag (zag (zag (Below.refl _ W) (by omega) _) (by omega) _) (by omega) _
  have oS:∀ k,k≠L->k≠L+1->k≠L+2->S.heap[k]?=W.heap[k]?:=fun k h1 h2 h3=>by rw [hS];exact (zao h3).trans ((zao h2).trans (zao h1))
  have dS:S.heap[D]?=some (.deferred (some [])):=(oS D (by omega) (by omega) (by omega)).trans hdef;rw [<- hS];refine⟨_,rfl,dS,?_⟩;have rP:ResX L (S.putObj D (.deferred none)) (.slice p (zbg s).length cap) 0 0:=rS.same fun k hk=>zai (by omega);refine⟨_,zac (zaa rP.l) (i:=0) rfl,?_⟩;refine⟨_,zac (zaa rP.p) (i:=0) rfl,?_⟩;refine⟨_,zac (zaa rP.e) (i:=0) rfl,?_⟩;refine⟨p,cap,(zbg s).length,0,0,rfl,fun _=>⟨rfl,rfl,?_⟩,fun h=>?_,zaP (hbW.trans bS) (by omega) _⟩
  ·exact (ho.same fun a ha=>by
    have hne:a.block≠L/\a.block≠L+1/\a.block≠L+2/\a.block≠D:=by
     rcases ho.inv with ⟨h1,_⟩ | ⟨g',_,h1,h2,h3,_⟩
     ·rw [h1] at ha;cases ha
     ·rw [h1] at ha;cases ha;refine⟨by dsimp only;omega,by dsimp only;omega,by dsimp only;omega,fun e=>?_⟩;have e:g'=D:=e;rw [e,hdef] at h3;cases h3
    exact (zai hne.2.2.2).trans (oS _ hne.1 hne.2.1 hne.2.2.1)).row
  ·rw [hok1 hfl] at h;cases h
 ·rintro D ex pre W hD hfD hpre ⟨rfl,hbW,⟨t,ht,hft⟩,pl,er,hr,her⟩ hdef;refine⟨_,rfl,hdef,?_⟩;have rP:ResX L (W.putObj D (.deferred none)) (.slice none 0 0) pl er:=hr.same fun k hk=>zai (by omega);refine⟨_,zac (zaa rP.l) (i:=0) rfl,?_⟩;refine⟨_,zac (zaa rP.p) (i:=0) rfl,?_⟩;refine⟨_,zac (zaa rP.e) (i:=0) rfl,?_⟩;refine⟨none,0,0,pl,er,rfl,fun h=>?_,fun _=>her,zaP hbW (by omega) _⟩;rw [hok2 ⟨t,hpre.subset ht,hft⟩] at h;cases h
theorem znU (s:List UInt8) (hs:s.length<=140737488351232) (w:World):CB 73 #[strV s] w (.bool (zeB s)):=by
 refine cofE 34 [strV s] Tryz.func73 ?_;have hdef:zeB s=(zfJ s&&twoB (zbg s) s):=by
  unfold zeB zfJ;rw [Bool.and_assoc]
 refine cmo (zsd s hs w) ?_;rintro e V ⟨p,cap,n,pl,er,rfl,h1,h2,hb⟩
 cases hk:zfJ s with
 | false =>
  have her:=h2 hk;rw [hdef,hk,Bool.false_and];refine brN (by exact decide_eq_false her) ?_;refine brF ?_;refine brF ?_;exact⟨rfl,hb⟩
 | true =>
  obtain⟨rfl,rfl,hr⟩:=h1 hk;rw [hdef,hk,Bool.true_and];refine brT ?_;refine biE (fun h=>?_) fun h=>?_
  ·have h:(zbg s).length=2:=by have h:((zbg s).length:Int)=2:=dT h;omega
   match hx:zbg s,h with
   | [t,u],_ =>
    rw [hx] at hr;obtain⟨b,o,rfl,hbb,hc⟩:=hr.at (i:=0) (by simp);have hc:=hc 0 (by simp);refine⟨0,rfl,(by show 0<2;omega),?_⟩;refine⟨_,zac hc (i:=0) rfl,?_⟩;have kd:decide ((t.kind.toNat:Int)=1)=decide (t.kind=1):=(by rw [decide_eq_decide];exact zbe (y:=1));refine biE (fun h=>?_) fun h=>?_
    ·have h:decide (t.kind=1)=true:=kd.symm.trans h;refine⟨0,rfl,(by show 0<2;omega),?_⟩;refine⟨_,zac hc (i:=1) rfl,?_⟩;refine⟨_,fun w=>za8 _ _ t.text s w,?_⟩;exact⟨rb (by unfold twoB;simp only [h,Bool.true_and]),hb⟩
    ·have h:decide (t.kind=1)=false:=kd.symm.trans h;exact⟨rb (by unfold twoB;simp only [h,Bool.false_and]),hb⟩
  ·have h:¬ (zbg s).length=2:=by have h:¬ ((zbg s).length:Int)=2:=dF h;omega
   refine brF ?_;refine⟨rb ?_,hb⟩;have gen:∀ l:List Tok,¬ l.length=2->false=twoB l s:=fun l hl=>by
    match l,hl with
    | [],_=>rfl
    | [_],_=>rfl
    | [_,_],hl=>exact absurd rfl hl
    | _::_::_::_,_=>rfl
   exact gen _ h
theorem zrH (s:List UInt8) (w:World):Calls Tryz.prog 183 #[strV s] w fun e w'=>e = .returned (.bool (ziO s))/\w=w':=by
 refine cofE 22 [strV s] Tryz.func183 ?_;refine⟨_,fun w=>za8 _ _ s [116,101,115,116] w,?_⟩;refine biE (fun h=>?_) fun h0=>?_
 ·refine brE h ?_;exact⟨rb (List.any_eq_true.2 ⟨[116,101,115,116],by decide,h⟩).symm,rfl⟩
 refine⟨_,fun w=>za8 _ _ s [105,110,105,116] w,?_⟩;refine biE (fun h=>?_) fun h1=>?_
 ·refine brE h ?_;exact⟨rb (List.any_eq_true.2 ⟨[105,110,105,116],by decide,h⟩).symm,rfl⟩
 refine⟨_,fun w=>za8 _ _ s [116,104,114,101,97,100] w,?_⟩;refine biE (fun h=>?_) fun h2=>?_
 ·refine brE h ?_;exact⟨rb (List.any_eq_true.2 ⟨[116,104,114,101,97,100],by decide,h⟩).symm,rfl⟩
 refine⟨_,fun w=>za8 _ _ s [115,111,109,101] w,?_⟩;refine biE (fun h=>?_) fun h3=>?_
 ·refine brE h ?_;exact⟨rb (List.any_eq_true.2 ⟨[115,111,109,101],by decide,h⟩).symm,rfl⟩
 refine⟨_,fun w=>za8 _ _ s [110,111,110,101] w,?_⟩;refine biE (fun h=>?_) fun h4=>?_
 ·refine brE h ?_;exact⟨rb (List.any_eq_true.2 ⟨[110,111,110,101],by decide,h⟩).symm,rfl⟩
 refine⟨_,fun w=>za8 _ _ s [97,108,108] w,?_⟩;refine biE (fun h=>?_) fun h5=>?_
 ·refine brE h ?_;exact⟨rb (List.any_eq_true.2 ⟨[97,108,108],by decide,h⟩).symm,rfl⟩
 refine⟨_,fun w=>za8 _ _ s [97,99,113] w,?_⟩;refine biE (fun h=>?_) fun h6=>?_
 ·refine brE h ?_;exact⟨rb (List.any_eq_true.2 ⟨[97,99,113],by decide,h⟩).symm,rfl⟩
 refine⟨_,fun w=>za8 _ _ s [114,101,108] w,?_⟩;refine biE (fun h=>?_) fun h7=>?_
 ·refine brE h ?_;exact⟨rb (List.any_eq_true.2 ⟨[114,101,108],by decide,h⟩).symm,rfl⟩
 refine⟨_,fun w=>za8 _ _ s [115,119,97,112] w,?_⟩;refine biE (fun h=>?_) fun h8=>?_
 ·refine brE h ?_;exact⟨rb (List.any_eq_true.2 ⟨[115,119,97,112],by decide,h⟩).symm,rfl⟩
 refine⟨_,fun w=>za8 _ _ s [102,101,116,99,104] w,?_⟩;refine biE (fun h=>?_) fun h9=>?_
 ·refine brE h ?_;exact⟨rb (List.any_eq_true.2 ⟨[102,101,116,99,104],by decide,h⟩).symm,rfl⟩
 refine⟨_,fun w=>za8 _ _ s [99,97,115] w,?_⟩;refine biE (fun h=>?_) fun h10=>?_
 ·refine brE h ?_;exact⟨rb (List.any_eq_true.2 ⟨[99,97,115],by decide,h⟩).symm,rfl⟩
 refine⟨_,fun w=>za8 _ _ s [102,101,110,99,101] w,?_⟩;refine biE (fun h=>?_) fun h11=>?_
 ·refine brE h ?_;exact⟨rb (List.any_eq_true.2 ⟨[102,101,110,99,101],by decide,h⟩).symm,rfl⟩
 refine⟨_,fun w=>za8 _ _ s [108,111,97,100,115] w,?_⟩;refine biE (fun h=>?_) fun h12=>?_
 ·refine brE h ?_;exact⟨rb (List.any_eq_true.2 ⟨[108,111,97,100,115],by decide,h⟩).symm,rfl⟩
 refine⟨_,fun w=>za8 _ _ s [115,116,111,114,101,115] w,?_⟩;refine biE (fun h=>?_) fun h13=>?_
 ·refine brE h ?_;exact⟨rb (List.any_eq_true.2 ⟨[115,116,111,114,101,115],by decide,h⟩).symm,rfl⟩
 refine⟨_,fun w=>za8 _ _ s [115,107,105,112] w,?_⟩;refine biE (fun h=>?_) fun h14=>?_
 ·refine brE h ?_;exact⟨rb (List.any_eq_true.2 ⟨[115,107,105,112],by decide,h⟩).symm,rfl⟩
 refine⟨_,fun w=>za8 _ _ s [105,102] w,?_⟩;refine biE (fun h=>?_) fun h15=>?_
 ·refine brE h ?_;exact⟨rb (List.any_eq_true.2 ⟨[105,102],by decide,h⟩).symm,rfl⟩
 refine⟨_,fun w=>za8 _ _ s [116,114,117,101] w,?_⟩;refine biE (fun h=>?_) fun h16=>?_
 ·exact⟨rb (List.any_eq_true.2 ⟨[116,114,117,101],by decide,h⟩).symm,rfl⟩
 exact⟨rb (by unfold ziO zq2;simp only [List.any_cons,List.any_nil,h0,h1,h2,h3,h4,h5,h6,h7,h8,h9,h10,h11,h12,h13,h14,h15,h16];rfl),rfl⟩
theorem zrE (s:List UInt8) (hs:s.length<=140737488351232) (w:World):Calls Tryz.prog 126 #[strV s] w fun e w'=>e = .returned (.bool (zfD s))/\w=w':=by
 refine cofM 55 [strV s] (.s .p (.c .p (.s .p (.c .p .p)))) Tryz.func126 ?_;refine⟨Unit,fun _=>⟨[(0,strV s)],[]⟩,fun _ X=>(∃ c r,s=c::r/\r.length+1<=16/\clsL c=3/\ziO s=false)/\w=X,?_,?_⟩
 ·refine biE (fun h=>?_) fun h=>?_
  ·have h:(s.length:Int)<1:=dT h;have h0:s=[]:=List.eq_nil_of_length_eq_zero (by omega);subst h0;refine brT ?_;refine brT ?_;refine brT ?_;exact⟨rfl,rfl⟩
  have h:¬ (s.length:Int)<1:=dF h;obtain⟨c,r,rfl⟩:∃ c r,s=c::r:=by
   cases s with
   | nil=>simp at h
   | cons c r=>exact⟨c,r,rfl⟩
  have hdef:zfD (c::r)=(decide (r.length+1<=16)&&(decide (clsL c=3)&&(!ziO (c::r)&&(r.all zaT&&(!decide (c=114)||(decide (za9 r=0)||decide (za9 r<r.length))))))):=rfl;have hsz:(((bs (c::r)).size:Nat):Int)=(r.length+1:Nat):=rfl;refine biE (fun h2=>?_) fun h2=>?_
  ·have h2:(16:Int)<((r.length+1:Nat):Int):=dT h2;refine brT ?_;refine brT ?_;exact⟨rb (by rw [hdef,decide_eq_false (by omega)];rfl),rfl⟩
  have h2:¬ (16:Int)<((r.length+1:Nat):Int):=dF h2;refine⟨0,rfl,Nat.succ_pos _,c,rfl,?_⟩;refine cmo (zbu c _) ?_;rintro e _ ⟨rfl,rfl⟩;refine biE (fun h3=>?_) fun h3=>?_
  ·have h3:¬ clsL c=3:=by
    have h1:(!decide ((clsL c:Int)=3))=true:=h3;simp at h1;omega
   refine brT ?_;exact⟨rb (by rw [hdef,decide_eq_false h3];simp),rfl⟩
  have h3:clsL c=3:=by
   have h1:(!decide ((clsL c:Int)=3))=false:=h3;simp at h1;omega
  refine cmo (zrH (c::r) _) ?_;rintro e _ ⟨rfl,rfl⟩;refine biE (fun h4=>?_) fun h4=>?_
  ·have h4:ziO (c::r)=true:=h4;exact⟨rb (by rw [hdef,h4];simp),rfl⟩
  ·exact⟨(),(cvE rfl rfl),⟨c,r,rfl,by omega,h3,h4⟩,rfl⟩
 rintro _ _ ⟨⟨c,r,rfl,h1,h3,h4⟩,rfl⟩;have hdef:zfD (c::r)=(r.all zaT&&(!decide (c=114)||(decide (za9 r=0)||decide (za9 r<r.length)))):=by
  show (decide (r.length+1<=16)&&(decide (clsL c=3)&&(!ziO (c::r)&&(r.all zaT&&(!decide (c=114)||(decide (za9 r=0)||decide (za9 r<r.length)))))))=_;rw [decide_eq_true h1,decide_eq_true h3,h4];rfl
 rw [hdef];refine⟨Unit,fun _=>⟨[(0,strV (c::r)),(3,i64 (za9 r:Nat))],[]⟩,fun _ X=>r.all zaT=true/\w=X,?_,?_⟩
 ·refine⟨Nat,fun k=>⟨[(0,strV (c::r)),(3,i64 (za9 (r.take k):Nat)),(4,i64 (k+1:Nat))],[]⟩,fun k X=>k<=r.length/\(∀ d∈r.take k,zaT d=true)/\za9 (r.take k)<=k/\w=X,fun k=>r.length-k,0,(cvE rfl rfl),⟨Nat.zero_le _,by simp,Nat.le_refl _,rfl⟩,?_⟩;rintro k _ ⟨hk,hw,hdk,rfl⟩;dsimp only at hk hw hdk ⊢;refine biE (fun hc=>?_) fun hc=>?_
  ·have hc:((k+1:Nat):Int)<((r.length+1:Nat):Int):=dT hc;have hl:k<r.length:=by omega
   have hat:(bs (c::r)).data.toList[k+1]?=some r[k]:=by
    show (c::r)[k+1]?=_;rw [List.getElem?_cons_succ,gE hl]
   refine⟨k+1,rfl,(by show k+1<r.length+1;omega),r[k],hat,?_⟩;refine cmo (zjH _ _) ?_;rintro e _ ⟨rfl,rfl⟩;refine biE (fun hi=>?_) fun hi=>?_
   ·have hi:(!zaT r[k])=true:=hi;have hi:zaT r[k]=false:=(by simpa using hi);have:r.all zaT=false:=by
     rw [List.all_eq_false];exact⟨r[k],gM _,by rw [hi];simp⟩
    exact⟨rb (by rw [this];rfl),rfl⟩
   have hi:(!zaT r[k])=false:=hi;have hi:zaT r[k]=true:=by simpa using hi
   have hw':∀ d∈r.take (k+1),zaT d=true:=by
    rw [tsg hl];intro d hd;rcases List.mem_append.1 hd with hd | hd
    ·exact hw d hd
    ·simp only [List.mem_singleton] at hd;rw [hd];exact hi
   have hds:za9 (r.take (k+1))=za9 (r.take k)+(if digB r[k]=true then 1 else 0):=by
    unfold za9;rw [tsg hl,List.filter_append,lap];congr 1;by_cases h:digB r[k]=true
    ·rw [if_pos h,List.filter_cons_of_pos h];rfl
    ·rw [if_neg h,List.filter_cons_of_neg h];rfl
   refine⟨k+1,rfl,(by show k+1<r.length+1;omega),r[k],hat,?_⟩;refine cmo (zbu _ _) ?_;rintro e _ ⟨rfl,rfl⟩;have hd:decide ((clsL r[k]:Int)=4)=digB r[k]:=zc9 (b:=4);refine biE (fun hg=>?_) fun hg=>?_
   ·have hg:digB r[k]=true:=hd.symm.trans hg;rw [if_pos hg] at hds;refine⟨(za9 (r.take (k+1)):Int),(zaf (by omega)).trans (by omega),?_⟩;refine⟨((k+1+1:Nat):Int),(zaf (by omega)).trans (by omega),?_⟩;exact⟨k+1,(cvE rfl rfl),⟨hl,hw',by omega,rfl⟩,zdc (by omega)⟩
   ·have hg:¬ digB r[k]=true:=(by rw [Bool.not_eq_true];exact hd.symm.trans hg);rw [if_neg hg] at hds;refine⟨((k+1+1:Nat):Int),(zaf (by omega)).trans (by omega),?_⟩;exact⟨k+1,⟨.cons rfl (.cons (by rw [hds];rfl) (.cons rfl .nil)),rfl⟩,⟨hl,hw',by omega,rfl⟩,zdc (by omega)⟩
  ·have hc:¬ ((k+1:Nat):Int)<((r.length+1:Nat):Int):=dF hc;obtain rfl:k=r.length:=by omega
   rw [List.take_length] at hw;exact⟨(),⟨.cons rfl (.cons (by rw [List.take_length];rfl) .nil),rfl⟩,List.all_eq_true.2 hw,rfl⟩
 rintro _ _ ⟨hall,rfl⟩;rw [hall,Bool.true_and];have hdl:za9 r<=r.length:=List.length_filter_le _ _;refine⟨0,rfl,Nat.succ_pos _,c,rfl,?_⟩;have cd:decide ((c.toNat:Int)=114)=decide (c=114):=by rw [decide_eq_decide];exact zbe (y:=114)
 refine biE (fun h=>?_) fun h=>?_
 ·have h:(!decide (c=114))=true:=by
   have h:(!decide ((c.toNat:Int)=114))=true:=h
   rwa [cd] at h
  refine brT ?_;exact⟨rb (by rw [h];rfl),rfl⟩
 have h:(!decide (c=114))=false:=by
  have h:(!decide ((c.toNat:Int)=114))=false:=h
  rwa [cd] at h
 rw [h,Bool.false_or];refine biE (fun h5=>?_) fun h5=>?_
 ·have h5:za9 r=0:=by have h5:(za9 r:Int)=0:=dT h5;omega
  exact⟨rb (by rw [decide_eq_true h5];rfl),rfl⟩
 have h5:¬ za9 r=0:=by have h5:¬ (za9 r:Int)=0:=dF h5;omega
 refine⟨(r.length:Nat),(zaf (by show -9223372036854775808<=((r.length+1:Nat):Int)-1/\((r.length+1:Nat):Int)-1<=9223372036854775807;omega)).trans (by show ((r.length+1:Nat):Int)-1=_;omega),?_⟩;exact⟨rb (by rw [decide_eq_false h5,Bool.false_or,decide_eq_decide];omega),rfl⟩
theorem zqy (p:Option Addr) (cap:Nat) (l:List (List UInt8)) (s:List UInt8) (w:World) (hl:SlR namE w p l) (hn:l.length<=140737488351232) :
  Calls Tryz.prog 185 #[.slice p l.length cap,strV s] w fun e w'=>∃ n:Int,e = .returned (i64 n)/\decide (0<=n)=l.any (fun q=>decide (q=s))/\w=w':=by
 refine cofE 19 [.slice p l.length cap,strV s] Tryz.func185 ?_;refine⟨Nat,fun k=>⟨[(0,.slice p l.length cap),(1,strV s),(7,i64 l.length),(8,i64 (k:Nat))],[]⟩,fun k X=>k<=l.length/\(∀ q∈l.take k,¬ q=s)/\w=X,fun k=>l.length-k,0,(cvE rfl rfl),⟨Nat.zero_le _,by simp,rfl⟩,?_⟩;rintro k _ ⟨hk,hno,rfl⟩;dsimp only at hk hno ⊢;refine biE (fun hc=>?_) fun hc=>?_
 ·have hc:(k:Int)<(l.length:Int):=dT hc;have hkl:k<l.length:=by omega
  obtain⟨b,o,rfl,hb,hat⟩:=hl.at hkl;refine⟨k,rfl,hkl,?_⟩;refine⟨_,zac (hat k hkl) (i:=0) rfl,?_⟩;refine⟨_,fun w=>za8 _ _ s l[k] w,?_⟩;refine biE (fun h=>?_) fun h=>?_
  ·have h:s=l[k]:=dT h;refine⟨k,rfl,?_,rfl⟩;rw [decide_eq_true (by omega)];symm;rw [List.any_eq_true];exact⟨l[k],gM _,decide_eq_true h.symm⟩
  ·have h:¬ s=l[k]:=dF h;refine⟨(k+1:Nat),(zaf (by omega)).trans (by omega),?_⟩;refine⟨k+1,(cvE rfl rfl),⟨hkl,?_,rfl⟩,zdc (by omega)⟩;rw [tsg hkl];intro q hq;rcases List.mem_append.1 hq with hq | hq
   ·exact hno q hq
   ·simp only [List.mem_singleton] at hq;rw [hq];exact fun e=>h e.symm
 ·have hc:¬ (k:Int)<(l.length:Int):=dF hc;obtain rfl:k=l.length:=by omega
  rw [List.take_length] at hno;refine⟨-1,rfl,?_,rfl⟩;symm;show _=false;rw [List.any_eq_false];exact fun q hq=>by simpa using hno q hq
theorem zkU (p:Option Addr) (cap:Nat) (l:List (List UInt8)) (s:List UInt8) (w:World) (hl:SlR namE w p l) (hn:l.length<=140737488351232) :
  Calls Tryz.prog 127 #[.slice p l.length cap,strV s] w fun e w'=>e = .returned (.bool (l.any fun q=>decide (q=s)))/\w=w':=by
 refine cofE 9 [.slice p l.length cap,strV s] Tryz.func127 ?_;refine cmo (zqy p cap l s w hl hn) ?_;rintro e _ ⟨n,rfl,h,rfl⟩;exact⟨rb h,rfl⟩
def GlobC (w : World) : Prop := zax w ⟨4, 0, none⟩ (zgY.map u8)
theorem GlobC.below {w w2 : World} (h : GlobC w) (hb : Below w.heap.size w w2) : GlobC w2 := zaq hb h
def spC (x : InsD) (locs after : Nat) : List Value := [u8 x.op, u8 x.dst, u8 x.loc, .bool x.ar, u8 x.an, .bool x.br, u8 x.bn, u8 x.fn, u8 x.mode, u8 x.skip, i64 locs, i64 after]
theorem u8d (x k : UInt8) : decide ((x.toNat : Int) = (k.toNat : Int)) = decide (x = k) := by rw [decide_eq_decide]; exact zbe
theorem zqE (a b : UInt8) : IntKind.u8.wrap ((BitVec.ofInt IntKind.u8.bits (a.toNat : Int) &&& BitVec.ofInt IntKind.u8.bits (b.toNat : Int)).toNat : Int) = ((a &&& b).toNat : Int) := by
  have h : ∀ x : UInt8, BitVec.ofInt 8 (x.toNat : Int) = x.toBitVec := fun x => by
    apply BitVec.eq_of_toNat_eq
    rw [BitVec.toNat_ofInt]
    have := x.toNat_lt
    show ((x.toNat : Int) % (2 ^ 8 : Nat)).toNat = x.toNat
    omega
  show IntKind.u8.wrap ((BitVec.ofInt 8 (a.toNat : Int) &&& BitVec.ofInt 8 (b.toNat : Int)).toNat : Int) = _
  rw [h, h]
  have e : (a.toBitVec &&& b.toBitVec).toNat = (a &&& b).toNat := rfl
  rw [e]
  have := (a &&& b).toNat_lt
  exact zgK (by omega)
theorem zg8 {g locs after : Nat} {x : InsD} {w : World} (bit : UInt8) (h : zax w ⟨g, 0, none⟩ (spC x locs after)) (hop : x.op.toNat ≤ 8) (hG : GlobC w) :
    Calls Tryz.prog 191 #[.pointer (some ⟨g, 0, none⟩), u8 bit] w fun e w' => e = .returned (.bool (hasL x.op bit)) ∧ w = w' := by
  refine zaZ (S := sg 15) (sgOk _) (args := [.pointer (some ⟨g, 0, none⟩), u8 bit]) Tryz.func191 rfl rfl (Nat.le_of_ble_eq_true rfl) rfl ?_
  refine ⟨_, zac h (i := 0) rfl, ?_⟩
  refine ⟨x.op.toNat, rfl, (by show x.op.toNat < 9; omega), ?_⟩
  have hn : (zgY.map u8)[x.op.toNat]? = some (u8 (zgY.getD x.op.toNat 0)) := by
    have hl : x.op.toNat < zgY.length := by show _ < 9; omega
    rw [List.getElem?_map, List.getElem?_eq_getElem hl, List.getD_eq_getElem?_getD, List.getElem?_eq_getElem hl]; rfl
  refine ⟨u8 (zgY.getD x.op.toNat 0), by rw [Nat.mul_one]; exact zac hG hn, ?_⟩
  refine ⟨((zgY.getD x.op.toNat 0 &&& bit).toNat : Int), zqE _ _, ?_⟩
  exact ⟨rb (by unfold hasL; rw [← u8d]; rfl), rfl⟩
theorem zgH (r : Bool) (n : UInt8) (w : World) : Calls Tryz.prog 193 #[.agg #[.bool r, u8 n]] w fun e w' => e = .returned (.bool (argL r n)) ∧ Below w.heap.size w w' := by
  refine zaZ (S := sg 11) (sgOk _) (args := [.agg #[.bool r, u8 n]]) Tryz.func193 rfl rfl (Nat.le_of_ble_eq_true rfl) rfl ?_
  have hb0 : Below w.heap.size w (w.alloc (.cells #[.bool r, u8 n] 66)) := (Below.refl _ _).alloc (Nat.le_refl _) _
  have c0 := zaa (hnew w (.cells #[.bool r, u8 n] 66))
  refine ⟨_, zac c0 (i := 0) rfl, ?_⟩
  cases r with
  | false =>
    refine brT ?_
    exact ⟨rfl, hb0⟩
  | true =>
    refine brF ?_
    refine ⟨_, zac c0 (i := 1) rfl, ?_⟩
    refine ⟨rb ?_, hb0⟩
    show decide ((n.toNat : Int) < 8) = decide (n.toNat < 8)
    rw [decide_eq_decide]; omega
theorem ziF {g locs after : Nat} {x : InsD} {w : World} (h : zax w ⟨g, 0, none⟩ (spC x locs after)) :
    Calls Tryz.prog 194 #[.pointer (some ⟨g, 0, none⟩)] w fun e w' => e = .returned (.bool (zgZ x)) ∧ w = w' := by
  refine zaZ (S := sg 64) (sgOk _) (args := [.pointer (some ⟨g, 0, none⟩)]) Tryz.func194 rfl rfl (Nat.le_of_ble_eq_true rfl) rfl ?_
  refine ⟨_, zac h (i := 0) rfl, ?_⟩
  refine And.intro (fun h1 => ?_) (fun h1 => ?_)
  · have h1 : x.op = 1 := of_decide_eq_true ((u8d x.op 1).symm.trans h1)
    have e : zgZ x = (decide (x.mode = 0) || decide (x.mode = 1)) := by unfold zgZ; rw [if_pos h1]
    rw [e, ← u8d, ← u8d]
    refine ⟨_, zac h (i := 8) rfl, ?_⟩
    refine And.intro (fun h2 => ?_) (fun h2 => ?_)
    · exact ⟨rb (by have h2 : decide ((x.mode.toNat : Int) = ((0 : UInt8).toNat : Int)) = true := h2
                    rw [h2]; rfl), rfl⟩
    · refine ⟨_, zac h (i := 8) rfl, ?_⟩
      exact ⟨rb (by have h2 : decide ((x.mode.toNat : Int) = ((0 : UInt8).toNat : Int)) = false := h2
                    rw [h2]; rfl), rfl⟩
  have h1 : ¬ x.op = 1 := of_decide_eq_false ((u8d x.op 1).symm.trans h1)
  refine And.intro (fun h2 => ?_) (fun h2 => ?_)
  · have h2 : x.op = 2 := of_decide_eq_true ((u8d x.op 2).symm.trans h2)
    have e : zgZ x = (decide (x.mode = 0) || decide (x.mode = 2)) := by unfold zgZ; rw [if_neg h1, if_pos h2]
    rw [e, ← u8d, ← u8d]
    refine ⟨_, zac h (i := 8) rfl, ?_⟩
    refine And.intro (fun h2 => ?_) (fun h2 => ?_)
    · exact ⟨rb (by have h2 : decide ((x.mode.toNat : Int) = ((0 : UInt8).toNat : Int)) = true := h2
                    rw [h2]; rfl), rfl⟩
    · refine ⟨_, zac h (i := 8) rfl, ?_⟩
      exact ⟨rb (by have h2 : decide ((x.mode.toNat : Int) = ((0 : UInt8).toNat : Int)) = false := h2
                    rw [h2]; rfl), rfl⟩
  have h2 : ¬ x.op = 2 := of_decide_eq_false ((u8d x.op 2).symm.trans h2)
  refine And.intro (fun h3 => ?_) (fun h3 => ?_)
  · have h3 : x.op = 7 := of_decide_eq_true ((u8d x.op 7).symm.trans h3)
    have e : zgZ x = (decide (x.mode = 3) || (decide (x.mode = 4) || decide (x.mode = 5))) := by unfold zgZ; rw [if_neg h1, if_neg h2, if_pos h3]
    rw [e, ← u8d, ← u8d, ← u8d]
    refine ⟨_, zac h (i := 8) rfl, ?_⟩
    refine And.intro (fun h4 => ?_) (fun h4 => ?_)
    · refine brT ?_
      exact ⟨rb (by have h4 : decide ((x.mode.toNat : Int) = ((3 : UInt8).toNat : Int)) = true := h4
                    rw [h4]; rfl), rfl⟩
    have h4 : decide ((x.mode.toNat : Int) = ((3 : UInt8).toNat : Int)) = false := h4
    refine ⟨_, zac h (i := 8) rfl, ?_⟩
    refine And.intro (fun h5 => ?_) (fun h5 => ?_)
    · exact ⟨rb (by have h5 : decide ((x.mode.toNat : Int) = ((4 : UInt8).toNat : Int)) = true := h5
                    rw [h4, h5]; rfl), rfl⟩
    have h5 : decide ((x.mode.toNat : Int) = ((4 : UInt8).toNat : Int)) = false := h5
    refine ⟨_, zac h (i := 8) rfl, ?_⟩
    exact ⟨rb (by rw [h4, h5]; rfl), rfl⟩
  have h3 : ¬ x.op = 7 := of_decide_eq_false ((u8d x.op 7).symm.trans h3)
  exact ⟨rb (by unfold zgZ; rw [if_neg h1, if_neg h2, if_neg h3]), rfl⟩
theorem zma {g locs after : Nat} {x : InsD} {w : World} (h : zax w ⟨g, 0, none⟩ (spC x locs after)) :
    Calls Tryz.prog 195 #[.pointer (some ⟨g, 0, none⟩)] w fun e w' => e = .returned (.bool (fnL x)) ∧ w = w' := by
  refine zaZ (S := sg 56) (sgOk _) (args := [.pointer (some ⟨g, 0, none⟩)]) Tryz.func195 rfl rfl (Nat.le_of_ble_eq_true rfl) rfl ?_
  refine ⟨_, zac h (i := 0) rfl, ?_⟩
  refine And.intro (fun h1 => ?_) (fun h1 => ?_)
  · have h1 : x.op = 3 := of_decide_eq_true ((u8d x.op 3).symm.trans h1)
    have e : fnL x = (decide (x.fn = 1) || (decide (x.fn = 2) || decide (x.fn = 3))) := by unfold fnL; rw [if_pos h1]
    rw [e, ← u8d, ← u8d, ← u8d]
    refine ⟨_, zac h (i := 7) rfl, ?_⟩
    refine And.intro (fun h4 => ?_) (fun h4 => ?_)
    · refine brT ?_
      exact ⟨rb (by have h4 : decide ((x.fn.toNat : Int) = ((1 : UInt8).toNat : Int)) = true := h4
                    rw [h4]; rfl), rfl⟩
    have h4 : decide ((x.fn.toNat : Int) = ((1 : UInt8).toNat : Int)) = false := h4
    refine ⟨_, zac h (i := 7) rfl, ?_⟩
    refine And.intro (fun h5 => ?_) (fun h5 => ?_)
    · exact ⟨rb (by have h5 : decide ((x.fn.toNat : Int) = ((2 : UInt8).toNat : Int)) = true := h5
                    rw [h4, h5]; rfl), rfl⟩
    have h5 : decide ((x.fn.toNat : Int) = ((2 : UInt8).toNat : Int)) = false := h5
    refine ⟨_, zac h (i := 7) rfl, ?_⟩
    exact ⟨rb (by rw [h4, h5]; rfl), rfl⟩
  have h1 : ¬ x.op = 3 := of_decide_eq_false ((u8d x.op 3).symm.trans h1)
  refine And.intro (fun h2 => ?_) (fun h2 => ?_)
  · have h2 : x.op = 8 := of_decide_eq_true ((u8d x.op 8).symm.trans h2)
    have e : fnL x = (decide (x.fn = 4) || (decide (x.fn = 5) || decide (x.fn = 6))) := by unfold fnL; rw [if_neg h1, if_pos h2]
    rw [e, ← u8d, ← u8d, ← u8d]
    refine ⟨_, zac h (i := 7) rfl, ?_⟩
    refine And.intro (fun h4 => ?_) (fun h4 => ?_)
    · refine brT ?_
      exact ⟨rb (by have h4 : decide ((x.fn.toNat : Int) = ((4 : UInt8).toNat : Int)) = true := h4
                    rw [h4]; rfl), rfl⟩
    have h4 : decide ((x.fn.toNat : Int) = ((4 : UInt8).toNat : Int)) = false := h4
    refine ⟨_, zac h (i := 7) rfl, ?_⟩
    refine And.intro (fun h5 => ?_) (fun h5 => ?_)
    · exact ⟨rb (by have h5 : decide ((x.fn.toNat : Int) = ((5 : UInt8).toNat : Int)) = true := h5
                    rw [h4, h5]; rfl), rfl⟩
    have h5 : decide ((x.fn.toNat : Int) = ((5 : UInt8).toNat : Int)) = false := h5
    refine ⟨_, zac h (i := 7) rfl, ?_⟩
    exact ⟨rb (by rw [h4, h5]; rfl), rfl⟩
  have h2 : ¬ x.op = 8 := of_decide_eq_false ((u8d x.op 8).symm.trans h2)
  exact ⟨rb (by unfold fnL; rw [if_neg h1, if_neg h2]), rfl⟩
set_option maxRecDepth 4000
def zIns:InsD:=⟨0,0,0,false,0,false,0,0,0,0⟩
def nd0 (x:InsD):InsD:={ zIns with op:=x.op }
def nd1 (x:InsD):InsD:={ nd0 x with dst:=if hasL x.op 1 then x.dst else 0 }
def nd2 (x:InsD):InsD:={ nd1 x with loc:=if hasL x.op 2 then x.loc else 0 }
def nd3 (x:InsD):InsD:={ nd2 x with ar:=hasL x.op 4&&x.ar,an:=if hasL x.op 4 then x.an else 0 }
def nd4 (x:InsD):InsD:={ nd3 x with br:=hasL x.op 8&&x.br,bn:=if hasL x.op 8 then x.bn else 0 }
def nd5 (x:InsD):InsD:={ nd4 x with fn:=if hasL x.op 16 then x.fn else 0 }
def nd6 (x:InsD):InsD:={ nd5 x with mode:=if hasL x.op 32 then x.mode else 0 }
def nd7 (x:InsD):InsD:={ nd6 x with skip:=if hasL x.op 64 then x.skip else 0 }
theorem znG {g locs after:Nat} {x:InsD} {w:World} (h:zax w ⟨g,0,none⟩ (spC x locs after)) (hg:g<w.heap.size) (hop:x.op.toNat<=8) (hG:GlobC w) :
  CB 188 #[At0 g] w (.agg (insE.enc (zgX x)).toArray):=by
 refine cofM 67 [At0 g] (.s .p (.c .p (.c .p (.c .p (.c .p (.c .p (.c .p (.c .p (.c .p .p))))))))) Tryz.func188 ?_;obtain⟨r,hr⟩:=nm (w.heap.size);obtain⟨W0,hW0⟩:=nm (w.alloc (.cells (insE.enc zIns).toArray 68));have hb0:Bw w W0:=by rw [hW0];exact (zba _ _)
 have f0:W0.heap[r]?=some (.cells (insE.enc zIns).toArray 68 (0,0)):=by rw [hW0,hr];exact hnew w _
 have s0:W0.heap.size=r+1:=by rw [hW0,wz,hr]
 let Good:InsD->World->Prop:=fun y X=>Bw w X/\X.heap[r]?=some (.cells (insE.enc zIns).toArray 68 (0,0))/\X.heap[r+1]?=some (.cells (insE.enc y).toArray 68 (0,0))
 have good:∀ y X,Good y X->zax X ⟨g,0,none⟩ (spC x locs after)/\GlobC X/\g<X.heap.size:=fun y X ⟨hb,_,_⟩=>⟨zbc hb hg h,hG.below hb,by have:=hb.size;omega⟩;have turn:∀ y z X Y,Good y X->X.grownBy Y (some (r+1))->Y.heap[r+1]?=some (.cells (insE.enc z).toArray 68 (0,0))->Good z Y:=fun y z X Y ⟨hb,h1,h2⟩ hg' h3 =>
  ⟨hb.grown hg' hb.size (fun k e=>by simp only [Option.some.injEq] at e;omega),(hg'.block _ (hlt h1) (fun e=>by simp only [Option.some.injEq] at e;omega)).trans h1,h3⟩
 have start:∀ Y,Bw W0 Y->Y.heap[W0.heap.size]?=some (.cells (Value.agg (insE.enc (nd0 x)).toArray).cells 68 (0,0))->Good (nd0 x) Y:=fun Y hY fY =>
  ⟨(zst hb0 hY),zab hY f0,by rw [<- s0];exact fY⟩
 have h0:zax W0 ⟨g,0,none⟩ (spC x locs after):=zbc hb0 hg h;have p2:some (Value.pointer (some ⟨w.heap.size,0,none⟩))=some (At0 r):=by rw [hr]
 have p3:some (Value.pointer (some ⟨W0.heap.size,0,none⟩))=some (At0 (r+1)):=by rw [s0]
 refine⟨Unit,fun _=>⟨[(0,At0 g),(2,At0 r),(3,At0 (r+1))],[]⟩,fun _ X=>Good (nd0 x) X,?_,?_⟩
 ·subst hW0;refine⟨_,zac h0 (i:=0) rfl,?_⟩;refine⟨insE.enc (nd0 x),rfl,?_⟩;refine zap (v := .agg (insE.enc (nd0 x)).toArray) k68 rfl rfl rfl fun Y hbY fY sY=>?_;exact⟨(),⟨.cons rfl (.cons p2 (.cons p3 .nil)),rfl⟩,start Y hbY fY⟩
 clear start h0 f0 hb0 p2 p3 s0;rintro _ Y hY;refine⟨Unit,fun _=>⟨[(0,At0 g),(2,At0 r),(3,At0 (r+1))],[]⟩,fun _ X=>Good (nd1 x) X,?_,?_⟩
 ·obtain⟨hc,hGY,hgY⟩:=good _ Y hY;refine cmo (zg8 1 hc hop hGY) ?_;rintro e _ ⟨rfl,rfl⟩;refine biE (fun hh=>?_) fun hh=>?_
  ·have hh:hasL x.op 1=true:=hh;have e:nd1 x={ nd0 x with dst:=x.dst }:=by unfold nd1;rw [if_pos hh]
   refine⟨_,zac hc (i:=1) rfl,?_⟩;refine zbP k5 rfl (hY.2.2) (o:=1) (by show 1<10;omega) (v:=u8 x.dst) rfl rfl fun Z fZ gZ sZ=>?_;exact⟨(),(cvE rfl rfl),turn _ _ Y Z hY gZ (by rw [e];exact fZ)⟩
  ·have hh:hasL x.op 1=false:=hh;have e:nd1 x=nd0 x:=by unfold nd1;rw [if_neg (by rw [hh];decide)];rfl
   exact⟨(),(cvE rfl rfl),by rw [e];exact hY⟩
 clear hY Y;rintro _ Y hY;refine⟨Unit,fun _=>⟨[(0,At0 g),(2,At0 r),(3,At0 (r+1))],[]⟩,fun _ X=>Good (nd2 x) X,?_,?_⟩
 ·obtain⟨hc,hGY,hgY⟩:=good _ Y hY;refine cmo (zg8 2 hc hop hGY) ?_;rintro e _ ⟨rfl,rfl⟩;refine biE (fun hh=>?_) fun hh=>?_
  ·have hh:hasL x.op 2=true:=hh;have e:nd2 x={ nd1 x with loc:=x.loc }:=by unfold nd2;rw [if_pos hh]
   refine⟨_,zac hc (i:=2) rfl,?_⟩;refine zbP k5 rfl (hY.2.2) (o:=2) (by show 2<10;omega) (v:=u8 x.loc) rfl rfl fun Z fZ gZ sZ=>?_;exact⟨(),(cvE rfl rfl),turn _ _ Y Z hY gZ (by rw [e];exact fZ)⟩
  ·have hh:hasL x.op 2=false:=hh;have e:nd2 x=nd1 x:=by unfold nd2;rw [if_neg (by rw [hh];decide)];rfl
   exact⟨(),(cvE rfl rfl),by rw [e];exact hY⟩
 clear hY Y;rintro _ Y hY;refine⟨Unit,fun _=>⟨[(0,At0 g),(2,At0 r),(3,At0 (r+1))],[]⟩,fun _ X=>Good (nd3 x) X,?_,?_⟩
 ·obtain⟨hc,hGY,hgY⟩:=good _ Y hY;refine cmo (zg8 4 hc hop hGY) ?_;rintro e _ ⟨rfl,rfl⟩;refine biE (fun hh=>?_) fun hh=>?_
  ·have hh:hasL x.op 4=true:=hh;have e:nd3 x={ nd2 x with ar:=x.ar,an:=x.an }:=by unfold nd3;rw [hh,Bool.true_and,if_pos rfl]
   refine⟨[.bool x.ar,u8 x.an],rfl,zaw (n:=3) (m:=2) hc,hgY,?_⟩;refine zbo k66 hY.2.2 (o:=3) (v := .agg #[.bool x.ar,u8 x.an]) rfl (by show 3+2<=10;omega) rfl fun Z fZ gZ sZ=>?_;exact⟨(),(cvE rfl rfl),turn _ _ Y Z hY gZ (by rw [e];exact fZ)⟩
  ·have hh:hasL x.op 4=false:=hh;have e:nd3 x=nd2 x:=by unfold nd3;rw [hh,Bool.false_and,if_neg (by decide)];rfl
   exact⟨(),(cvE rfl rfl),by rw [e];exact hY⟩
 clear hY Y;rintro _ Y hY;refine⟨Unit,fun _=>⟨[(0,At0 g),(2,At0 r),(3,At0 (r+1))],[]⟩,fun _ X=>Good (nd4 x) X,?_,?_⟩
 ·obtain⟨hc,hGY,hgY⟩:=good _ Y hY;refine cmo (zg8 8 hc hop hGY) ?_;rintro e _ ⟨rfl,rfl⟩;refine biE (fun hh=>?_) fun hh=>?_
  ·have hh:hasL x.op 8=true:=hh;have e:nd4 x={ nd3 x with br:=x.br,bn:=x.bn }:=by unfold nd4;rw [hh,Bool.true_and,if_pos rfl]
   refine⟨[.bool x.br,u8 x.bn],rfl,zaw (n:=5) (m:=2) hc,hgY,?_⟩;refine zbo k66 hY.2.2 (o:=5) (v := .agg #[.bool x.br,u8 x.bn]) rfl (by show 5+2<=10;omega) rfl fun Z fZ gZ sZ=>?_;exact⟨(),(cvE rfl rfl),turn _ _ Y Z hY gZ (by rw [e];exact fZ)⟩
  ·have hh:hasL x.op 8=false:=hh;have e:nd4 x=nd3 x:=by unfold nd4;rw [hh,Bool.false_and,if_neg (by decide)];rfl
   exact⟨(),(cvE rfl rfl),by rw [e];exact hY⟩
 clear hY Y;rintro _ Y hY;refine⟨Unit,fun _=>⟨[(0,At0 g),(2,At0 r),(3,At0 (r+1))],[]⟩,fun _ X=>Good (nd5 x) X,?_,?_⟩
 ·obtain⟨hc,hGY,hgY⟩:=good _ Y hY;refine cmo (zg8 16 hc hop hGY) ?_;rintro e _ ⟨rfl,rfl⟩;refine biE (fun hh=>?_) fun hh=>?_
  ·have hh:hasL x.op 16=true:=hh;have e:nd5 x={ nd4 x with fn:=x.fn }:=by unfold nd5;rw [if_pos hh]
   refine⟨_,zac hc (i:=7) rfl,?_⟩;refine zbP k5 rfl (hY.2.2) (o:=7) (by show 7<10;omega) (v:=u8 x.fn) rfl rfl fun Z fZ gZ sZ=>?_;exact⟨(),(cvE rfl rfl),turn _ _ Y Z hY gZ (by rw [e];exact fZ)⟩
  ·have hh:hasL x.op 16=false:=hh;have e:nd5 x=nd4 x:=by unfold nd5;rw [if_neg (by rw [hh];decide)];rfl
   exact⟨(),(cvE rfl rfl),by rw [e];exact hY⟩
 clear hY Y;rintro _ Y hY;refine⟨Unit,fun _=>⟨[(0,At0 g),(2,At0 r),(3,At0 (r+1))],[]⟩,fun _ X=>Good (nd6 x) X,?_,?_⟩
 ·obtain⟨hc,hGY,hgY⟩:=good _ Y hY;refine cmo (zg8 32 hc hop hGY) ?_;rintro e _ ⟨rfl,rfl⟩;refine biE (fun hh=>?_) fun hh=>?_
  ·have hh:hasL x.op 32=true:=hh;have e:nd6 x={ nd5 x with mode:=x.mode }:=by unfold nd6;rw [if_pos hh]
   refine⟨_,zac hc (i:=8) rfl,?_⟩;refine zbP k5 rfl (hY.2.2) (o:=8) (by show 8<10;omega) (v:=u8 x.mode) rfl rfl fun Z fZ gZ sZ=>?_;exact⟨(),(cvE rfl rfl),turn _ _ Y Z hY gZ (by rw [e];exact fZ)⟩
  ·have hh:hasL x.op 32=false:=hh;have e:nd6 x=nd5 x:=by unfold nd6;rw [if_neg (by rw [hh];decide)];rfl
   exact⟨(),(cvE rfl rfl),by rw [e];exact hY⟩
 clear hY Y;rintro _ Y hY;refine⟨Unit,fun _=>⟨[(0,At0 g),(2,At0 r),(3,At0 (r+1))],[]⟩,fun _ X=>Good (nd7 x) X,?_,?_⟩
 ·obtain⟨hc,hGY,hgY⟩:=good _ Y hY;refine cmo (zg8 64 hc hop hGY) ?_;rintro e _ ⟨rfl,rfl⟩;refine biE (fun hh=>?_) fun hh=>?_
  ·have hh:hasL x.op 64=true:=hh;have e:nd7 x={ nd6 x with skip:=x.skip }:=by unfold nd7;rw [if_pos hh]
   refine⟨_,zac hc (i:=9) rfl,?_⟩;refine zbP k5 rfl (hY.2.2) (o:=9) (by show 9<10;omega) (v:=u8 x.skip) rfl rfl fun Z fZ gZ sZ=>?_;exact⟨(),(cvE rfl rfl),turn _ _ Y Z hY gZ (by rw [e];exact fZ)⟩
  ·have hh:hasL x.op 64=false:=hh;have e:nd7 x=nd6 x:=by unfold nd7;rw [if_neg (by rw [hh];decide)];rfl
   exact⟨(),(cvE rfl rfl),by rw [e];exact hY⟩
 clear hY Y;rintro _ Y hY;refine⟨_,rfl,zaa hY.2.2,hlt hY.2.2,?_⟩;refine zam (v := .agg (insE.enc (nd7 x)).toArray) k68 hY.2.1 rfl rfl rfl ?_;refine⟨_,rfl,zaa (zaj hY.2.1),?_⟩;exact⟨rfl,zag hY.1 (by omega) _⟩
theorem tArg:∃ G,TyEq Tryz.prog 66 true 2 2 G/\∀ r n,G [.bool r,u8 n]:=by
 refine⟨_,.struct (uf Tryz.underlying66).1 (by kernel_rfl) (fun w=>Tryz.isAgg66 w) (zaU (by kernel_rfl) (by kernel_rfl)).1 (by kernel_rfl)
  (by rw [(uf Tryz.underlying66).2];exact .cons (by decide) rfl zrU (.cons (by decide) rfl tU8 .nil)),fun r n=>?_⟩
 exact⟨⟨_,rfl⟩,⟨_,rfl⟩,trivial⟩
theorem tIns:∃ G,TyEq Tryz.prog 68 true 10 3 G/\∀ x,G (insE.enc x):=by
 obtain⟨G,h1,h2⟩:=tArg;refine⟨_,.struct (uf Tryz.underlying68).1 (by kernel_rfl) (fun w=>Tryz.isAgg68 w) (zaU (by kernel_rfl) (by kernel_rfl)).1 (by kernel_rfl)
  (by rw [(uf Tryz.underlying68).2];exact .cons (by decide) rfl (tU8.up 1) (.cons (by decide) rfl (tU8.up 1) (.cons (by decide) rfl (tU8.up 1) (.cons (by decide) rfl h1 (.cons (by decide) rfl h1 (.cons (by decide) rfl (tU8.up 1) (.cons (by decide) rfl (tU8.up 1) (.cons (by decide) rfl (tU8.up 1) .nil)))))))),fun x=>?_⟩
 exact⟨⟨_,rfl⟩,⟨_,rfl⟩,⟨_,rfl⟩,h2 _ _,h2 _ _,⟨_,rfl⟩,⟨_,rfl⟩,⟨_,rfl⟩,trivial⟩
theorem zc7 {a b:UInt8} (h:u8 a=u8 b):a=b:=by
 unfold u8 at h;simp only [Value.int.injEq,true_and] at h;exact zbe.1 h
theorem zpF {a b:InsD}:insE.enc a=insE.enc b↔a=b:=by
 constructor
 ·intro h;obtain⟨a0,a1,a2,a3,a4,a5,a6,a7,a8,a9⟩:=a;obtain⟨b0,b1,b2,b3,b4,b5,b6,b7,b8,b9⟩:=b;simp only [insE,List.cons.injEq,and_true,Value.bool.injEq] at h;obtain⟨h0,h1,h2,rfl,h4,rfl,h6,h7,h8,h9⟩:=h;rw [zc7 h0,zc7 h1,zc7 h2,zc7 h4,zc7 h6,zc7 h7,zc7 h8,zc7 h9]
 ·exact fun h=>by rw [h]
theorem zpY (x y:Operand) (a b:InsD) (w:World):(do eqGuard .eql 68 x y (.agg (insE.enc a).toArray) (.agg (insE.enc b).toArray);binOp .eql 68 (.agg (insE.enc a).toArray) (.agg (insE.enc b).toArray)).run Tryz.prog w = .ok (.bool (decide (a=b))) w:=by
 obtain⟨G,h,hG⟩:=tIns;rw [zjO h 9997 rfl (by kernel_rfl) rfl rfl (hG a) (hG b) x y w,zdt zpF]
structure SpV (X:World) (g bx:Nat) (x:InsD) (locs after:Nat):Prop where
 c:X.heap[g]?=some (.cells (spC x locs after).toArray 193 (0,0))
 b:X.heap[bx]?=some (.cells #[At0 g] 268 (0,0))
 G:GlobC X
theorem SpV.below {X Y:World} {g bx locs after:Nat} {x:InsD} (h:SpV X g bx x locs after) (hb:Bw X Y):SpV Y g bx x locs after:=⟨zab hb h.c,zab hb h.b,h.G.below hb⟩
theorem SpV.cells {X:World} {g bx locs after:Nat} {x:InsD} (h:SpV X g bx x locs after):zax X ⟨g,0,none⟩ (spC x locs after):=zaa h.c
section
variable {g bx locs after:Nat} {x:InsD} {w:World}
theorem zqa (h:SpV w g bx x locs after):CB 186 #[At0 bx] w (.bool (decide (1<=x.op.toNat)&&decide (x.op.toNat<=8))):=by
 refine cofE 16 [At0 bx] Tryz.func186 ?_;refine⟨_,zac (zaa h.b) (i:=0) rfl,?_⟩;refine⟨_,zac h.cells (i:=0) rfl,?_⟩;refine biE (fun h1=>?_) fun h1=>?_
 ·have h1:(1:Int)<=x.op.toNat:=dT h1;refine⟨_,zac (zaa h.b) (i:=0) rfl,?_⟩;refine⟨_,zac h.cells (i:=0) rfl,?_⟩;refine⟨rb ?_,Below.refl _ _⟩;rw [decide_eq_true (p:=1<=x.op.toNat) (by omega),Bool.true_and,decide_eq_decide];show (x.op.toNat:Int)<=8↔_;omega
 ·have h1:¬ (1:Int)<=x.op.toNat:=dF h1;refine⟨rb ?_,Below.refl _ _⟩;rw [decide_eq_false (p:=1<=x.op.toNat) (by omega)];rfl
theorem zp9 (h:SpV w g bx x locs after) (hop:x.op.toNat<=8):CB 187 #[At0 bx] w (.bool (decide (x=zgX x))):=by
 refine cofE 9 [At0 bx] Tryz.func187 ?_;have hd:SpV w.drew g bx x locs after:=h.below (Below.refl _ w).drew;refine DrawE.ord [] [0,1,2,3,4,5,6,7] (by kernel_rfl) ?_;refine⟨_,zac (zaa hd.b) (i:=0) rfl,?_⟩;refine⟨insE.enc x,rfl,zaw (n:=0) (m:=10) hd.cells,hlt hd.c,?_⟩;refine⟨_,zac (zaa hd.b) (i:=0) rfl,?_⟩;refine cmo (znG hd.cells (hlt hd.c) hop hd.G) ?_;rintro e V ⟨rfl,hb⟩;refine⟨hb,?_⟩;refine⟨_,fun w=>zpY _ _ x (zgX x) w,?_⟩;exact⟨rfl,(Below.refl _ w).drew.trans hb⟩
theorem zp8 (h:SpV w g bx x locs after):CB 189 #[At0 bx] w (.bool (decide (x.dst.toNat<8))):=by
 refine cofE 8 [At0 bx] Tryz.func189 ?_;refine⟨_,zac (zaa h.b) (i:=0) rfl,?_⟩;refine⟨_,zac h.cells (i:=1) rfl,?_⟩;refine⟨rb ?_,Below.refl _ _⟩;show decide ((x.dst.toNat:Int)<8)=_;rw [decide_eq_decide];omega
theorem zp7 (h:SpV w g bx x locs after) (hop:x.op.toNat<=8):CB 190 #[At0 bx] w (.bool (!hasL x.op 2||decide (x.loc.toNat<locs))):=by
 refine cofE 18 [At0 bx] Tryz.func190 ?_;have hd:SpV w.drew g bx x locs after:=h.below (Below.refl _ w).drew;refine DrawE.ord [] [0,1,2,3,4,5,6,7,8,9,10,11,12,13,14,15,16] (by kernel_rfl) ?_;refine⟨_,zac (zaa hd.b) (i:=0) rfl,?_⟩;refine cmo (zg8 2 hd.cells hop hd.G) ?_;rintro e _ ⟨rfl,rfl⟩;refine⟨Below.refl _ _,?_⟩;refine biE (fun h1=>?_) fun h1=>?_
 ·have h1:(!hasL x.op 2)=true:=h1;exact⟨rb (by rw [h1];rfl),(Below.refl _ w).drew⟩
 ·have h1:(!hasL x.op 2)=false:=h1;refine⟨_,zac (zaa hd.b) (i:=0) rfl,?_⟩;refine⟨_,zac hd.cells (i:=2) rfl,?_⟩;refine⟨_,zaS _,?_⟩;refine⟨_,zac (zaa hd.b) (i:=0) rfl,?_⟩;refine⟨_,zac hd.cells (i:=10) rfl,?_⟩;refine⟨rb ?_,(Below.refl _ w).drew⟩;rw [h1,Bool.false_or,decide_eq_decide];omega
theorem zp6 (h:SpV w g bx x locs after):CB 192 #[At0 bx] w (.bool (argL x.ar x.an&&argL x.br x.bn)):=by
 refine cofE 16 [At0 bx] Tryz.func192 ?_;refine⟨_,zac (zaa h.b) (i:=0) rfl,?_⟩;refine⟨[.bool x.ar,u8 x.an],rfl,zaw (n:=3) (m:=2) h.cells,hlt h.c,?_⟩;refine cmo (zgH x.ar x.an w) ?_;rintro e V ⟨rfl,hb⟩;have hV:=h.below hb;refine biE (fun h1=>?_) fun h1=>?_
 ·have h1:argL x.ar x.an=true:=h1;refine⟨_,zac (zaa hV.b) (i:=0) rfl,?_⟩;refine⟨[.bool x.br,u8 x.bn],rfl,zaw (n:=5) (m:=2) hV.cells,hlt hV.c,?_⟩;refine cmo (zgH x.br x.bn V) ?_;rintro e U ⟨rfl,hb2⟩;exact⟨rb (by rw [h1,Bool.true_and]),(zst hb hb2)⟩
 ·have h1:argL x.ar x.an=false:=h1;exact⟨rb (by rw [h1,Bool.false_and]),hb⟩
theorem zp5 (h:SpV w g bx x locs after) (hop:x.op.toNat<=8):CB 196 #[At0 bx] w (.bool (!hasL x.op 64||(decide (1<=x.skip.toNat)&&decide (x.skip.toNat<=after)))):=by
 refine cofE 26 [At0 bx] Tryz.func196 ?_;have hd:SpV w.drew g bx x locs after:=h.below (Below.refl _ w).drew;refine DrawE.ord [] [0,1,2,3,4,5,6,7,8,9,10,11,12,13,14,15,16,17,18,19,20,21,22,23,24] (by kernel_rfl) ?_;refine⟨_,zac (zaa hd.b) (i:=0) rfl,?_⟩;refine cmo (zg8 64 hd.cells hop hd.G) ?_;rintro e _ ⟨rfl,rfl⟩;refine⟨Below.refl _ _,?_⟩;refine biE (fun h1=>?_) fun h1=>?_
 ·have h1:(!hasL x.op 64)=true:=h1;exact⟨rb (by rw [h1];rfl),(Below.refl _ w).drew⟩
 ·have h1:(!hasL x.op 64)=false:=h1;rw [h1,Bool.false_or];refine⟨_,zac (zaa hd.b) (i:=0) rfl,?_⟩;refine⟨_,zac hd.cells (i:=9) rfl,?_⟩;refine biE (fun h2=>?_) fun h2=>?_
  ·have h2:(1:Int)<=x.skip.toNat:=dT h2;refine⟨_,zac (zaa hd.b) (i:=0) rfl,?_⟩;refine⟨_,zac hd.cells (i:=9) rfl,?_⟩;refine⟨_,zaS _,?_⟩;refine⟨_,zac (zaa hd.b) (i:=0) rfl,?_⟩;refine⟨_,zac hd.cells (i:=11) rfl,?_⟩;refine⟨rb ?_,(Below.refl _ w).drew⟩;rw [decide_eq_true (p:=1<=x.skip.toNat) (by omega),Bool.true_and,decide_eq_decide];omega
  ·have h2:¬ (1:Int)<=x.skip.toNat:=dF h2;refine⟨rb ?_,(Below.refl _ w).drew⟩;rw [decide_eq_false (p:=1<=x.skip.toNat) (by omega)];rfl
end
def zjU (g bx:Nat):List Value:=[.func (.func 186) #[] #[At0 bx],.func (.func 187) #[] #[At0 bx],.func (.func 189) #[] #[At0 bx],
 .func (.func 190) #[] #[At0 bx],.func (.func 192) #[] #[At0 bx],.func (.func 194) #[At0 g] #[],.func (.func 195) #[At0 g] #[],
 .func (.func 196) #[] #[At0 bx]]
theorem zp4 {g:Nat} {w:World}:Calls Tryz.prog 128 #[At0 g] w fun e w'=>e = .returned (.slice (some ⟨w.heap.size+1,0,none⟩) 8 8) /\
  w'.heap[w.heap.size]?=some (.cells #[At0 g] 268 (0,0))/\w'.heap[w.heap.size+1]?=some (.cells (zjU g w.heap.size).toArray 31 (0,0))/\w'.heap.size=w.heap.size+2/\Bw w w':=by
 refine cofE 14 [At0 g] Tryz.func128 ?_;obtain⟨W,hW⟩:=nm (w.alloc (.cells #[At0 g] 268));have hb:W.heap[w.heap.size]?=some (.cells #[At0 g] 268 (0,0)):=by rw [hW];exact hnew w _
 have hs:W.heap.size=w.heap.size+1:=by rw [hW,wz]
 have hbb:Bw w W:=by rw [hW];exact (zba w _)
 refine⟨_,zac (zaa (hnew w _)) (i:=0) rfl,?_⟩;refine⟨_,zac (zaa (hnew w _)) (i:=0) rfl,?_⟩;refine⟨⟨by decide,by decide,rfl⟩,zjU g w.heap.size,rfl,?_⟩;have hs1:=wz w (.cells #[At0 g] 268);refine⟨?_,?_,?_,?_,?_⟩
 ·show Ending.returned (.slice (some ⟨(w.alloc (.cells #[At0 g] 268)).heap.size,0,none⟩) 8 8)=_;rw [hs1]
 ·exact hold _ (hnew w _)
 ·rw [<- hs1];exact hnew _ _
 ·rw [wz,wz]
 ·exact ((zba w _)).alloc (by simp) _
structure ThI (X:World) (L:Nat) (x:InsD) (locs after:Nat):Prop where
 c:X.heap[L]?=some (.cells (spC x locs after).toArray 193 (0,0))
 b:X.heap[L+1]?=some (.cells #[At0 L] 268 (0,0))
 s:X.heap[L+2]?=some (.cells (zjU L (L+1)).toArray 31 (0,0))
theorem ThI.below {X Y:World} {L:Nat} {x:InsD} {locs after:Nat} (h:ThI X L x locs after) (hb:Bw X Y):ThI Y L x locs after:=⟨zab hb h.c,zab hb h.b,zab hb h.s⟩
def ins0:InsD:=⟨0,0,0,false,0,false,0,0,0,0⟩
theorem zj7 {l:List Bool}:∀ {n:Nat},(∀ j,j<n->l[j]?=some true)->n=l.length->l.all id=true:=by
 intro n h e;rw [List.all_eq_true];intro b hb;obtain⟨j,hj,rfl⟩:=List.getElem_of_mem hb;have:=h j (by omega);rw [gE hj] at this;exact Option.some.inj this
theorem zoQ {l:List Bool} {j:Nat} (h:l[j]?=some false):l.all id=false:=by
 rw [List.all_eq_false];obtain⟨hj,e⟩:=List.getElem?_eq_some_iff.1 h;exact⟨l[j],gM _,by rw [e];decide⟩
theorem zeR {l:List InsD} {k locs:Nat} (hkl:k<l.length) {i:Nat} (h:(insC l[k] locs (l.length-1-k))[i]?=some false) {w X:World} (hb:Bw w X) :
  Ending.returned (.bool false) = .returned (.bool (zbk l locs))/\Bw w X:=by
 refine⟨rb ?_,hb⟩;symm;unfold zbk;rw [Bool.and_eq_false_iff];refine .inr ?_;rw [List.all_eq_false];refine⟨k,List.mem_range.2 hkl,?_⟩;rw [gE hkl];show ¬ insB l[k] locs (l.length-1-k)=true;unfold insB;rw [zoQ h];simp
theorem zka {p:Option Addr} {cap locs:Nat} {l:List InsD} {w:World} (hl:SlR insE w p l) (hG:GlobC w) (hn:l.length<=140737488351232) :
  CB 80 #[.slice p l.length cap,i64 locs] w (.bool (zbk l locs)):=by
 refine cofE 43 [.slice p l.length cap,i64 locs] Tryz.func80 ?_;obtain⟨L,hL⟩:=nm (w.heap.size);refine biE (fun h=>?_) fun h=>?_
 ·have h:(12:Int)<l.length:=dT h;exact⟨rb (by unfold zbk;rw [decide_eq_false (by omega)];rfl),Below.refl _ _⟩
 have h12:¬ (12:Int)<l.length:=dF h;refine⟨spC ins0 locs 0,rfl,?_⟩;refine zap (X:=w) (v := .agg (spC ins0 locs 0).toArray) k193 rfl rfl rfl fun V hbV fV sV=>?_;refine cmo zp4 ?_;rintro e W0 ⟨rfl,hbx,hsl,hsz,hb0⟩;rw [sV,<- hL] at hsz hbx hsl;have hI0:ThI W0 L ins0 locs 0:=⟨hL▸zab hb0 fV,hbx,hsl⟩;have hbw:Bw w W0:=zst hbV hb0;have p1:some (Value.pointer (some ⟨w.heap.size,0,none⟩))=some (At0 L):=by rw [hL]
 have p2:some (Value.slice (some ⟨V.heap.size+1,0,none⟩) 8 8)=some (Value.slice (some ⟨L+2,0,none⟩) 8 8):=by rw [sV,hL]
 clear hbx hsl fV sV hb0 hbV;refine⟨Nat,fun k=>⟨[(0,.slice p l.length cap),(1,i64 locs),(5,At0 L),(6,.slice (some ⟨L+2,0,none⟩) 8 8),(17,.slice p l.length cap),(18,i64 l.length),(19,i64 (k:Nat))],[]⟩,
  fun k X=>k<=l.length/\(∀ i,i<k->∀ x,l[i]?=some x->insB x locs (l.length-1-i)=true)/\(∃ x aft,ThI X L x locs aft)/\Bw w X,fun k=>l.length-k,0,
  ⟨.cons rfl (.cons rfl (.cons p1 (.cons p2 (.cons rfl (.cons rfl (.cons rfl .nil)))))),rfl⟩,⟨Nat.zero_le _,fun i hi=>by omega,⟨ins0,0,hI0⟩,hbw⟩,?_⟩
 rintro k X ⟨hk,hdone,⟨x0,a0,hI⟩,hbX⟩;dsimp only at hk hdone ⊢;refine biE (fun hc=>?_) fun hc=>?_
 ·have hc:(k:Int)<(l.length:Int):=dT hc;have hkl:k<l.length:=by omega
  obtain⟨b,o,rfl,hbl,hat⟩:=hl.at hkl;refine⟨k,rfl,hkl,?_⟩;have hx:=hat k hkl;refine⟨insE.enc l[k],rfl,zbc hbX hbl hx,nL hbl hbX.size,?_⟩;refine zap (X:=X) (v := .agg (insE.enc l[k]).toArray) k68 rfl rfl rfl fun Y hbY fY sY=>?_;refine⟨insE.enc l[k],rfl,zaa fY,hlt fY,?_⟩;refine⟨((l.length-1:Nat):Int),(zaf (by omega)).trans (by omega),?_⟩;refine⟨((l.length-1-k:Nat):Int),(zaf (by omega)).trans (by omega),?_⟩;have hY:=hI.below hbY;refine zbo k68 hY.c (o:=0) (v := .agg (insE.enc l[k]).toArray) rfl (by show 0+10<=12;omega) rfl fun Z fZ gZ sZ=>?_;refine zbo k3 fZ (o:=11) (v:=i64 (l.length-1-k:Nat)) rfl (by show 11+1<=12;omega) rfl fun U fU gU sU=>?_;have hIU:ThI U L l[k] locs (l.length-1-k):=⟨fU,(gU.block _ (by have:=hlt hY.b;omega) (by simp)).trans ((gZ.block _ (hlt hY.b) (by simp)).trans hY.b),(gU.block _ (by have:=hlt hY.s;omega) (by simp)).trans ((gZ.block _ (hlt hY.s) (by simp)).trans hY.s)⟩;have hbU:Bw w U:=by
   have h1:Bw w Y:=zst hbX hbY;have h2:∀ (A B:World),Bw w A->A.grownBy B (some L)->Bw w B:=fun A B ha hg=>ha.trans ⟨hg.os,hg.tape,hg.output,hg.size,fun j hj=>hg.block j (nL hj ha.size) (by simp;omega)⟩;exact h2 _ _ (h2 _ _ h1 gZ) gU
  refine⟨Nat,fun j=>⟨[(0,.slice (some ⟨b,o,none⟩) l.length cap),(1,i64 locs),(5,At0 L),(6,.slice (some ⟨L+2,0,none⟩) 8 8),(17,.slice (some ⟨b,o,none⟩) l.length cap),(18,i64 l.length),(19,i64 (k:Nat)),(32,.slice (some ⟨L+2,0,none⟩) 8 8),(33,i64 8),(34,i64 (j:Nat))],[]⟩,
   fun j X=>j<=8/\(∀ i,i<j->(insC l[k] locs (l.length-1-k))[i]?=some true)/\ThI X L l[k] locs (l.length-1-k)/\Bw w X,fun j=>8-j,0,
   (cvE rfl rfl),⟨Nat.zero_le _,fun i hi=>by omega,hIU,hbU⟩,?_⟩
  clear hIU hbU;rintro j X2 ⟨hj,hpre,hI2,hb2⟩;dsimp only at hj hpre ⊢;have hG2:GlobC X2:=hG.below hb2;have hS:SpV X2 L (L+1) l[k] locs (l.length-1-k):=⟨hI2.c,hI2.b,hG2⟩;refine biE (fun hc2=>?_) fun hc2=>?_
  ·have hc2:(j:Int)<8:=dT hc2;refine⟨j,rfl,(by omega),?_⟩;have ho:0<j->l[k].op.toNat<=8:=fun h0=>by
    have:=Option.some.inj (hpre 0 h0);rw [bAT] at this;exact dT this.2
   have hat2:∀ {v:Value},(zjU L (L+1))[j]?=some v->X2.cell? ⟨L+2,0+j*1,none⟩=some v:=fun hv=>by
    have:=zac (zaa hI2.s) (i:=j) (by simpa using hv);rw [Nat.mul_one];exact this
   have hcs:j=0\/j=1\/j=2\/j=3\/j=4\/j=5\/j=6\/j=7:=by omega
   rcases hcs with rfl | rfl | rfl | rfl | rfl | rfl | rfl | rfl
   ·refine⟨_,hat2 rfl,?_⟩;refine cmo (zqa hS) ?_;rintro e W ⟨rfl,hbW⟩;have hI3:=hI2.below hbW;refine biE (fun hb=>?_) fun hb=>?_
    ·have hb:(!((insC l[k] locs (l.length-1-k))[0]'(by show 0<8;decide)))=true:=hb;have hb:(insC l[k] locs (l.length-1-k))[0]?=some false:=(by rw [gE (by show 0<8;decide)];exact congrArg some (by rw [<- Bool.not_not ((insC l[k] locs (l.length-1-k))[0]'(by show 0<8;decide)),hb];rfl));exact zeR hkl hb ((zst hb2 hbW))
    ·have hb:(!((insC l[k] locs (l.length-1-k))[0]'(by show 0<8;decide)))=false:=hb;have hb:(insC l[k] locs (l.length-1-k))[0]?=some true:=(by rw [gE (by show 0<8;decide)];exact congrArg some (by rw [<- Bool.not_not ((insC l[k] locs (l.length-1-k))[0]'(by show 0<8;decide)),hb];rfl));refine⟨_,(zaf (by omega)).trans rfl,?_⟩;refine⟨1,(cvE rfl rfl),⟨by omega,fun i hi=>?_,hI3,(zst hb2 hbW)⟩,by decide⟩;by_cases hik:i=0
     ·rw [hik];exact hb
     ·exact hpre i (by omega)
   ·refine⟨_,hat2 rfl,?_⟩;refine cmo (zp9 hS (ho (by omega))) ?_;rintro e W ⟨rfl,hbW⟩;have hI3:=hI2.below hbW;refine biE (fun hb=>?_) fun hb=>?_
    ·have hb:(!((insC l[k] locs (l.length-1-k))[1]'(by show 1<8;decide)))=true:=hb;have hb:(insC l[k] locs (l.length-1-k))[1]?=some false:=(by rw [gE (by show 1<8;decide)];exact congrArg some (by rw [<- Bool.not_not ((insC l[k] locs (l.length-1-k))[1]'(by show 1<8;decide)),hb];rfl));exact zeR hkl hb ((zst hb2 hbW))
    ·have hb:(!((insC l[k] locs (l.length-1-k))[1]'(by show 1<8;decide)))=false:=hb;have hb:(insC l[k] locs (l.length-1-k))[1]?=some true:=(by rw [gE (by show 1<8;decide)];exact congrArg some (by rw [<- Bool.not_not ((insC l[k] locs (l.length-1-k))[1]'(by show 1<8;decide)),hb];rfl));refine⟨_,(zaf (by omega)).trans rfl,?_⟩;refine⟨2,(cvE rfl rfl),⟨by omega,fun i hi=>?_,hI3,(zst hb2 hbW)⟩,by decide⟩;by_cases hik:i=1
     ·rw [hik];exact hb
     ·exact hpre i (by omega)
   ·refine⟨_,hat2 rfl,?_⟩;refine cmo (zp8 hS) ?_;rintro e W ⟨rfl,hbW⟩;have hI3:=hI2.below hbW;refine biE (fun hb=>?_) fun hb=>?_
    ·have hb:(!((insC l[k] locs (l.length-1-k))[2]'(by show 2<8;decide)))=true:=hb;have hb:(insC l[k] locs (l.length-1-k))[2]?=some false:=(by rw [gE (by show 2<8;decide)];exact congrArg some (by rw [<- Bool.not_not ((insC l[k] locs (l.length-1-k))[2]'(by show 2<8;decide)),hb];rfl));exact zeR hkl hb ((zst hb2 hbW))
    ·have hb:(!((insC l[k] locs (l.length-1-k))[2]'(by show 2<8;decide)))=false:=hb;have hb:(insC l[k] locs (l.length-1-k))[2]?=some true:=(by rw [gE (by show 2<8;decide)];exact congrArg some (by rw [<- Bool.not_not ((insC l[k] locs (l.length-1-k))[2]'(by show 2<8;decide)),hb];rfl));refine⟨_,(zaf (by omega)).trans rfl,?_⟩;refine⟨3,(cvE rfl rfl),⟨by omega,fun i hi=>?_,hI3,(zst hb2 hbW)⟩,by decide⟩;by_cases hik:i=2
     ·rw [hik];exact hb
     ·exact hpre i (by omega)
   ·refine⟨_,hat2 rfl,?_⟩;refine cmo (zp7 hS (ho (by omega))) ?_;rintro e W ⟨rfl,hbW⟩;have hI3:=hI2.below hbW;refine biE (fun hb=>?_) fun hb=>?_
    ·have hb:(!((insC l[k] locs (l.length-1-k))[3]'(by show 3<8;decide)))=true:=hb;have hb:(insC l[k] locs (l.length-1-k))[3]?=some false:=(by rw [gE (by show 3<8;decide)];exact congrArg some (by rw [<- Bool.not_not ((insC l[k] locs (l.length-1-k))[3]'(by show 3<8;decide)),hb];rfl));exact zeR hkl hb ((zst hb2 hbW))
    ·have hb:(!((insC l[k] locs (l.length-1-k))[3]'(by show 3<8;decide)))=false:=hb;have hb:(insC l[k] locs (l.length-1-k))[3]?=some true:=(by rw [gE (by show 3<8;decide)];exact congrArg some (by rw [<- Bool.not_not ((insC l[k] locs (l.length-1-k))[3]'(by show 3<8;decide)),hb];rfl));refine⟨_,(zaf (by omega)).trans rfl,?_⟩;refine⟨4,(cvE rfl rfl),⟨by omega,fun i hi=>?_,hI3,(zst hb2 hbW)⟩,by decide⟩;by_cases hik:i=3
     ·rw [hik];exact hb
     ·exact hpre i (by omega)
   ·refine⟨_,hat2 rfl,?_⟩;refine cmo (zp6 hS) ?_;rintro e W ⟨rfl,hbW⟩;have hI3:=hI2.below hbW;refine biE (fun hb=>?_) fun hb=>?_
    ·have hb:(!((insC l[k] locs (l.length-1-k))[4]'(by show 4<8;decide)))=true:=hb;have hb:(insC l[k] locs (l.length-1-k))[4]?=some false:=(by rw [gE (by show 4<8;decide)];exact congrArg some (by rw [<- Bool.not_not ((insC l[k] locs (l.length-1-k))[4]'(by show 4<8;decide)),hb];rfl));exact zeR hkl hb ((zst hb2 hbW))
    ·have hb:(!((insC l[k] locs (l.length-1-k))[4]'(by show 4<8;decide)))=false:=hb;have hb:(insC l[k] locs (l.length-1-k))[4]?=some true:=(by rw [gE (by show 4<8;decide)];exact congrArg some (by rw [<- Bool.not_not ((insC l[k] locs (l.length-1-k))[4]'(by show 4<8;decide)),hb];rfl));refine⟨_,(zaf (by omega)).trans rfl,?_⟩;refine⟨5,(cvE rfl rfl),⟨by omega,fun i hi=>?_,hI3,(zst hb2 hbW)⟩,by decide⟩;by_cases hik:i=4
     ·rw [hik];exact hb
     ·exact hpre i (by omega)
   ·refine⟨_,hat2 rfl,?_⟩;refine cmo (ziF hS.cells) ?_;rintro e _ ⟨rfl,rfl⟩;have hbW:Bw X2 X2:=Below.refl _ _;have hI3:=hI2;refine biE (fun hb=>?_) fun hb=>?_
    ·have hb:(!((insC l[k] locs (l.length-1-k))[5]'(by show 5<8;decide)))=true:=hb;have hb:(insC l[k] locs (l.length-1-k))[5]?=some false:=(by rw [gE (by show 5<8;decide)];exact congrArg some (by rw [<- Bool.not_not ((insC l[k] locs (l.length-1-k))[5]'(by show 5<8;decide)),hb];rfl));exact zeR hkl hb ((zst hb2 hbW))
    ·have hb:(!((insC l[k] locs (l.length-1-k))[5]'(by show 5<8;decide)))=false:=hb;have hb:(insC l[k] locs (l.length-1-k))[5]?=some true:=(by rw [gE (by show 5<8;decide)];exact congrArg some (by rw [<- Bool.not_not ((insC l[k] locs (l.length-1-k))[5]'(by show 5<8;decide)),hb];rfl));refine⟨_,(zaf (by omega)).trans rfl,?_⟩;refine⟨6,(cvE rfl rfl),⟨by omega,fun i hi=>?_,hI3,(zst hb2 hbW)⟩,by decide⟩;by_cases hik:i=5
     ·rw [hik];exact hb
     ·exact hpre i (by omega)
   ·refine⟨_,hat2 rfl,?_⟩;refine cmo (zma hS.cells) ?_;rintro e _ ⟨rfl,rfl⟩;have hbW:Bw X2 X2:=Below.refl _ _;have hI3:=hI2;refine biE (fun hb=>?_) fun hb=>?_
    ·have hb:(!((insC l[k] locs (l.length-1-k))[6]'(by show 6<8;decide)))=true:=hb;have hb:(insC l[k] locs (l.length-1-k))[6]?=some false:=(by rw [gE (by show 6<8;decide)];exact congrArg some (by rw [<- Bool.not_not ((insC l[k] locs (l.length-1-k))[6]'(by show 6<8;decide)),hb];rfl));exact zeR hkl hb ((zst hb2 hbW))
    ·have hb:(!((insC l[k] locs (l.length-1-k))[6]'(by show 6<8;decide)))=false:=hb;have hb:(insC l[k] locs (l.length-1-k))[6]?=some true:=(by rw [gE (by show 6<8;decide)];exact congrArg some (by rw [<- Bool.not_not ((insC l[k] locs (l.length-1-k))[6]'(by show 6<8;decide)),hb];rfl));refine⟨_,(zaf (by omega)).trans rfl,?_⟩;refine⟨7,(cvE rfl rfl),⟨by omega,fun i hi=>?_,hI3,(zst hb2 hbW)⟩,by decide⟩;by_cases hik:i=6
     ·rw [hik];exact hb
     ·exact hpre i (by omega)
   ·refine⟨_,hat2 rfl,?_⟩;refine cmo (zp5 hS (ho (by omega))) ?_;rintro e W ⟨rfl,hbW⟩;have hI3:=hI2.below hbW;refine biE (fun hb=>?_) fun hb=>?_
    ·have hb:(!((insC l[k] locs (l.length-1-k))[7]'(by show 7<8;decide)))=true:=hb;have hb:(insC l[k] locs (l.length-1-k))[7]?=some false:=(by rw [gE (by show 7<8;decide)];exact congrArg some (by rw [<- Bool.not_not ((insC l[k] locs (l.length-1-k))[7]'(by show 7<8;decide)),hb];rfl));exact zeR hkl hb ((zst hb2 hbW))
    ·have hb:(!((insC l[k] locs (l.length-1-k))[7]'(by show 7<8;decide)))=false:=hb;have hb:(insC l[k] locs (l.length-1-k))[7]?=some true:=(by rw [gE (by show 7<8;decide)];exact congrArg some (by rw [<- Bool.not_not ((insC l[k] locs (l.length-1-k))[7]'(by show 7<8;decide)),hb];rfl));refine⟨_,(zaf (by omega)).trans rfl,?_⟩;refine⟨8,(cvE rfl rfl),⟨by omega,fun i hi=>?_,hI3,(zst hb2 hbW)⟩,by decide⟩;by_cases hik:i=7
     ·rw [hik];exact hb
     ·exact hpre i (by omega)
  ·have hc2:¬ (j:Int)<8:=dF hc2;obtain rfl:j=8:=by omega
   have hok:insB l[k] locs (l.length-1-k)=true:=zj7 hpre rfl;refine nxI (by omega) ?_;refine⟨k+1,(cvE rfl rfl),⟨hkl,fun i hi x hlx=>?_,⟨_,_,hI2⟩,hb2⟩,zdc (by omega)⟩;by_cases hik:i=k
   ·subst hik;rw [gE hkl] at hlx;rw [<- Option.some.inj hlx];exact hok
   ·exact hdone i (by omega) x hlx
 ·have hc:¬ (k:Int)<(l.length:Int):=dF hc;obtain rfl:k=l.length:=by omega
  refine⟨rb ?_,hbX⟩;unfold zbk;rw [decide_eq_true (by omega),Bool.true_and,Eq.comm,List.all_eq_true];intro i hi;have hi:i<l.length:=List.mem_range.1 hi;rw [gE hi];exact hdone i hi _ (gE hi)
structure GlobE (w:World):Prop where
 c:GlobC w
 t64:Tz64M w
 t32:Tz32M w
theorem GlobE.below {w w2:World} (h:GlobE w) (hb:Bw w w2):GlobE w2:=⟨h.c.below hb,h.t64.below hb,h.t32.below hb⟩
abbrev PthR:=PathD×(Option Addr×Nat)×(Option Addr×Nat)×(Option Addr×Nat)×(Option Addr×Nat)
def pthE:Enc PthR:=⟨fun x=>pthC x.1 x.2.1.1 x.2.1.2 x.2.2.1.1 x.2.2.1.2 x.2.2.2.1.1 x.2.2.2.1.2 x.2.2.2.2.1 x.2.2.2.2.2,12,fun _=>zjv ..,by decide,fun a u hu=>List.all_eq_true.1 (zju ..) u hu⟩
structure RowIn {α:Type} (E:Enc α) (T:TypeId) (B:Nat) (F:Nat->Prop) (Y:World) (q:Option Addr) (c:Nat) (l:List α):Prop where
 own:OwnS E T B Y q c l
 inF:∀ a,q=some a->F a.block
section
variable {α:Type} {E:Enc α} {T:TypeId} {B:Nat} {F G:Nat->Prop} {Y Z:World} {q:Option Addr} {c:Nat} {l:List α}
theorem zcB (h:OwnS E T B Y q c l) {a:Addr} (ha:q=some a):B<=a.block/\a.block<Y.heap.size/\∃ cur,Y.heap[a.block]?=some (.cells cur T (0,0)):=by
 rcases h.inv with ⟨h1,_⟩ | ⟨g,cur,h1,h2,h3,_⟩
 ·rw [h1] at ha;cases ha
 ·rw [h1] at ha;cases ha;exact⟨h2,hlt h3,cur,h3⟩
theorem RowIn.same (h:RowIn E T B F Y q c l) (hs:∀ k,F k->k<Y.heap.size->Z.heap[k]?=Y.heap[k]?) (hG:∀ k,F k->G k):RowIn E T B G Z q c l :=
 ⟨h.own.same fun a ha=>hs _ (h.inF a ha) (zcB h.own ha).2.1,fun a ha=>hG _ (h.inF a ha)⟩
end
def PthIn (B:Nat) (F:Nat->Prop) (Y:World) (x:PthR):Prop:=RowIn evE 225 B F Y x.2.1.1 x.2.1.2 x.1.ev/\RowIn prE 343 B F Y x.2.2.1.1 x.2.2.1.2 x.1.data/\RowIn prE 343 B F Y x.2.2.2.1.1 x.2.2.2.1.2 x.1.ctrl/\RowIn prE 343 B F Y x.2.2.2.2.1 x.2.2.2.2.2 x.1.rmw
theorem PthIn.same {B:Nat} {F G:Nat->Prop} {Y Z:World} {x:PthR} (h:PthIn B F Y x) (hs:∀ k,F k->k<Y.heap.size->Z.heap[k]?=Y.heap[k]?) (hG:∀ k,F k->G k):PthIn B G Z x :=
 ⟨h.1.same hs hG,h.2.1.same hs hG,h.2.2.1.same hs hG,h.2.2.2.same hs hG⟩
theorem za6 {W A B:World} {r:Option Nat} (h:W.grownBy A r) (hb:Below W.heap.size A B):W.grownBy B r :=
 ⟨hb.os.trans h.os,hb.tape.trans h.tape,hb.output.trans h.output,Nat.le_trans h.size hb.size,fun k hk hne=>(hb.block k hk).trans (h.block k hk hne)⟩
theorem zoW {q:Option Addr} {cap:Nat} {l:List InsD} {w:World} (hl:SlR insE w q l) (hG:GlobC w) (hn:l.length<=140737488351232) :
  CB 203 #[.slice q l.length cap] w (.bool (zbk l 6)):=by
 refine cofE 5 [.slice q l.length cap] Tryz.func203 ?_;refine cmo (zka (locs:=6) hl hG hn) ?_;rintro e X ⟨rfl,hb⟩;exact⟨rfl,hb⟩
def JPa (B n0 L:Nat) (W:World) (pre:List RunD) (F:Nat->Prop) (Y:World):Prop :=
 (n0<=Y.heap.size/\F L/\∀ k,F k->k<Y.heap.size)/\(∃ (xs:List PthR) (p:Option Addr) (c:Nat),Y.heap[L]?=some (.cells [.slice p xs.length c].toArray 209 (0,0))/\RowIn pthE 217 B F Y p c xs/\xs.map (·.1)=pre.map zev/\∀ x∈xs,PthIn n0 F Y x)/\Below B W Y
theorem JPa.iter {B n0 L:Nat} {W:World} (hB:B<=n0) (hn:n0=W.heap.size):JG n0 (fun _=>False) (JPa B n0 L W):=by
 refine⟨?_,?_⟩
 ·rintro pre F A C ⟨⟨h1,h2,h3⟩,⟨xs,p,c,h4,h5,h6,h7⟩,h8⟩ hs;have sf:∀ k,F k->k<A.heap.size->C.heap[k]?=A.heap[k]?:=fun k hk hl=>hs.same k hl (.inr hk);refine⟨⟨Nat.le_trans h1 hs.size,h2,fun k hk=>nL (h3 k hk) hs.size⟩,⟨xs,p,c,(sf L h2 (h3 L h2)).trans h4,h5.same sf fun k h=>h,h6,fun x hx=>(h7 x hx).same sf fun k h=>h⟩,h8.trans ⟨hs.os,hs.tape,hs.output,hs.size,fun k hk=>hs.same k (by omega) (.inl ⟨by omega,fun h=>h⟩)⟩⟩
 ·rintro pre F A k ⟨⟨_,_,h3⟩,_⟩ hk;exact⟨h3 k hk,fun h=>h⟩
def PthO (B:Nat) (Y:World) (x:PthR):Prop:=OwnS evE 225 B Y x.2.1.1 x.2.1.2 x.1.ev/\OwnS prE 343 B Y x.2.2.1.1 x.2.2.1.2 x.1.data/\OwnS prE 343 B Y x.2.2.2.1.1 x.2.2.2.1.2 x.1.ctrl/\OwnS prE 343 B Y x.2.2.2.2.1 x.2.2.2.2.2 x.1.rmw
theorem PthO.mono {B B':Nat} {Y:World} {x:PthR} (h:PthO B Y x) (hB:B'<=B):PthO B' Y x:=⟨OwnS.lower h.1 hB,OwnS.lower h.2.1 hB,OwnS.lower h.2.2.1 hB,OwnS.lower h.2.2.2 hB⟩
section
variable {l:List InsD} {vals:List UInt8} {q p:Option Addr} {cap cd:Nat} {w:World}
theorem zqt (hl:SlR insE w q l) (hp:SlR zaH w p vals) (hv1:1<=vals.length) (hv12:vals.length<=12) (hvs:srt8 vals=true) (hx:∀ x∈l,ExOk x) (hok:zbk l 6=true) (hG:GlobE w) (hR:∀ R∈zcu l (ded vals),R.many<=24/\RunB R) (hm:(zcu l (ded vals)).length<=4096) (hqb:∀ a,q=some a->a.block<w.heap.size) (hdl:(ded vals).length<=12) :
  Calls Tryz.prog 142 #[.slice q l.length cap,.slice p vals.length cd,i64 4096] w fun e w'=>(∃ (xs:List PthR) (p':Option Addr) (c':Nat),e = .returned (.tuple #[.slice p' xs.length c',i64 0])/\xs.map (·.1)=(zcu l (ded vals)).map zev/\OwnS pthE 217 w.heap.size w' p' c' xs/\∀ x∈xs,PthO w.heap.size w' x)/\Bw w w':=by
 have h12:l.length<=12:=by
  unfold zbk at hok;rw [bAT,dE] at hok;exact hok.1
 refine cofM 45 [.slice q l.length cap,.slice p vals.length cd,i64 4096] (.c .p (.s .p (.c .p (.c .p (.c .p (.c .p .p)))))) Tryz.func142 ?_;obtain⟨L,hL⟩:=nm (w.heap.size);refine⟨Unit,fun _=>⟨[(0,.slice q l.length cap),(1,.slice p vals.length cd),(5,AtR L),(6,AtR (L+1)),(7,AtR (L+2))],[]⟩,fun _ X=>X.heap[L]?=some (.cells #[i64 4096] 3 (0,0))/\X.heap[L+1]?=some (.cells #[.slice none 0 0] 209 (0,0))/\X.heap[L+2]?=some (.cells #[i64 0] 52 (0,0))/\X.heap.size=L+3/\Bw w X,?_,?_⟩
 ·have s1:=wz w (.cells #[i64 4096] 3);have h2:=hnew (w.alloc (.cells #[i64 4096] 3)) (.cells #[.slice none 0 0] 209);have s2:=wz (w.alloc (.cells #[i64 4096] 3)) (.cells #[.slice none 0 0] 209);have h3:=hnew ((w.alloc (.cells #[i64 4096] 3)).alloc (.cells #[.slice none 0 0] 209)) (.cells #[i64 0] 52);have s3:=wz ((w.alloc (.cells #[i64 4096] 3)).alloc (.cells #[.slice none 0 0] 209)) (.cells #[i64 0] 52);rw [s1] at h2 s2;rw [s2] at h3 s3;refine⟨(),⟨.cons rfl (.cons rfl (.cons (by rw [hL];rfl) (.cons (by rw [hL,<- s1];rfl) (.cons (by rw [hL,<- s2];rfl) .nil)))),rfl⟩,?_,?_,?_,?_,?_⟩
  ·rw [hL];exact hold _ (hold _ (hnew w _))
  ·rw [hL];exact hold _ h2
  ·rw [hL];exact h3
  ·rw [hL];exact s3
  ·exact (((zba w _)).alloc (by simp) _).alloc (by simp;omega) _
 rintro _ X ⟨f0,f1,f2,sX,hbX⟩;refine⟨_,zac (zaa f0) (i:=0) rfl,?_⟩;refine brF ?_;refine⟨_,zac (zaa f0) (i:=0) rfl,?_⟩;refine brF ?_;refine cmo (zoW (hl.below hbX) (hG.c.below hbX) (by omega)) ?_;rintro e Y ⟨rfl,hbY⟩;rw [hok];refine brF ?_;have hwY:=zst hbX hbY;have f0:=zab hbY f0;have f1:=zab hbY f1;have f2:=zab hbY f2;have sY:=hbY.size;obtain⟨D,hD⟩:=nm (ded vals);rw [<- hD] at hR hm hdl ⊢;refine⟨Option Addr×Nat,fun s=>⟨[(0,.slice q l.length cap),(1,.slice s.1 D.length s.2),(5,AtR L),(6,AtR (L+1)),(7,AtR (L+2))],[]⟩,fun s Z=>OwnS zaH 5 (L+3) Z s.1 s.2 D/\Bw Y Z,?_,?_⟩
 ·refine cmo (zeI (hp.below hwY) hv1 hv12 hvs) ?_;rintro e Z ⟨⟨d,cc,rfl,ho⟩,hbZ⟩;rw [<- hD] at ho;exact⟨(d,cc),⟨.cons rfl (.cons (by rw [hD];rfl) (.cons rfl (.cons rfl (.cons rfl .nil)))),rfl⟩,OwnS.lower ho (by omega),hbZ⟩
 rintro⟨d,cc⟩ Z ⟨oD,hbZ⟩;dsimp only at oD ⊢;have hwZ:=zst hwY hbZ;have f0:=zab hbZ f0;have f1:=zab hbZ f1;have f2:=zab hbZ f2;have sZ:=hbZ.size;obtain⟨N,hN⟩:=nm (Z.heap.size);refine⟨Unit,fun _=>⟨[(0,.slice q l.length cap),(1,.slice d D.length cc),(5,AtR L),(6,AtR (L+1)),(7,AtR (L+2)),(8,AtR N)],[]⟩,fun _ V=>V.heap[N]?=some (.cells [i64 0].toArray 3 (0,0))/\V.heap.size=N+1/\Bw Z V,?_,?_⟩
 ·refine zap (X:=Z) (v:=i64 0) k3 rfl rfl rfl fun V hbV fV sV=>?_;exact⟨(),⟨.cons rfl (.cons rfl (.cons rfl (.cons rfl (.cons rfl (.cons (by rw [hN];rfl) .nil))))),rfl⟩,by rw [hN];exact fV,by rw [hN];exact sV,hbV⟩
 rintro _ V ⟨fN,sV,hbV⟩;have hwV:=zst hwZ hbV;have f0:=zab hbV f0;have f1:=zab hbV f1;have f2:=zab hbV f2;have dlt:∀ a,d=some a->a.block<N:=fun a ha=>by rw [hN];exact (zcB oD ha).2.1
 have oD:=oD.below hbV;have hNZ:w.heap.size<=N:=by rw [hN];exact hwZ.size
 have hNL:L+3<=N:=by omega
 obtain⟨xs0,hxs0⟩:=nm (zcu l D);rw [<- hxs0] at hR hm ⊢;refine⟨Nat,fun D1=>⟨[(0,.slice q l.length cap),(1,.slice d D.length cc),(5,AtR L),(6,AtR (L+1)),(7,AtR (L+2)),(8,AtR N)],[{ target := .collected D1,args := #[] }]⟩,fun D1 U=>U.heap[N]?=some (.cells #[i64 xs0.length] 3 (0,0))/\U.heap[D1]?=some (.deferred (some []))/\N<D1/\V.grownBy U (some N),?_,?_⟩
 ·refine cmo ziW ?_;rintro e W ⟨rfl,fi,fd,sW,hbW⟩;have hwW:=zst hwV hbW;have fNW:=zab hbW fN;have f0W:=zab hbW f0;have qlt:∀ a,q=some a->a.block<w.heap.size:=hqb;have hI:=zmn (q:=q) (p:=d) (hl.below hwW) (oD.below hbW).row fi fd (fun a ha=>by have:=qlt a ha;have:=hwW.size;omega) (fun a ha=>by have:=dlt a ha;omega) h12 hx (by omega);rw [<- hxs0] at hI;refine zeQ (sgOk _) rfl (lb := #[AtR V.heap.size,AtR (V.heap.size+1)]) rfl rfl hI (Nat.le_refl _) (fun k hk=>⟨?_,rfl⟩) (fun pre vs W ⟨R,b,_,h,_⟩=>by rw [h];rfl) (by decide)
   (fun k=>k=N) (fun pre F Y=>F=(fun k=>k=N)/\W.heap.size<=Y.heap.size/\Y.heap[N]?=some (.cells [i64 pre.length].toArray 3 (0,0))/\W.grownBy Y (some N)) (fun _ _ _ _=>False) (fun k hk=>?_)
   (joG (F:=fun k=>k=N) (J:=fun (pre:List RunD) Y=>W.heap.size<=Y.heap.size/\Y.heap[N]?=some (.cells [i64 pre.length].toArray 3 (0,0))/\W.grownBy Y (some N)) (fun k h=>by omega) (fun s A h=>h.1) (fun pre A B ⟨h1,h2,h3⟩ hb=>⟨Nat.le_trans h1 hb.size,zbI hb (by omega) h2,za6 h3 hb⟩))
   (fun ex=>⟨fun _ _ _ _ h=>h.elim,fun _ _ _ _ h=>h.elim⟩) ⟨rfl,Nat.le_refl _,fNW,za7 _ _⟩ ?_ ?_ ?_
  ·rcases hk with ((rfl | rfl) | ⟨a,ha,rfl⟩ | ⟨a,ha,rfl⟩) | h
   ·omega
   ·omega
   ·have:=qlt a ha;have:=hwW.size;omega
   ·have:=dlt a ha;omega
   ·exact h.elim
  ·rcases hk with (rfl | rfl) | ⟨a,ha,rfl⟩ | ⟨a,ha,rfl⟩
   ·omega
   ·omega
   ·have:=qlt a ha;omega
   ·have:=dlt a ha;omega
  ·rintro yl pre x vs F Y hyl hpre hJ ⟨R',b',_,rfl,_⟩ hfy hlo;refine⟨rfl,F,KeepsG.refl _ _,hJ,?_⟩;rintro o Y2 hY2 ⟨rfl,h1,h2,h3⟩;have hpl:pre.length<xs0.length:=by
    obtain⟨t,ht⟩:=hpre;rw [<- ht];simp only [lap,List.length_cons];omega
   have g0:Y2.heap[L]?=some (.cells #[i64 4096] 3 (0,0)):=(h3.block L (hlt f0W) (by simp;omega)).trans f0W;refine⟨_,zac (zaa h2) (i:=0) rfl,?_⟩;refine⟨_,zac (zaa g0) (i:=0) rfl,?_⟩;refine brN (decide_eq_false (by omega)) ?_;refine⟨_,zac (zaa h2) (i:=0) rfl,?_⟩;refine⟨((pre.length+1:Nat):Int),(zaf (by omega)).trans (by omega),?_⟩;refine zal k3 h2 (o:=0) (v:=i64 (pre.length+1:Nat)) rfl rfl (by show 0<1;decide) rfl fun Z fZ gZ sZ=>?_;refine⟨_,⟨rfl,by omega,?_,zae h3 gZ⟩,KeepsG.grown (F:=fun k=>k=N) gZ rfl⟩;rw [lap];exact fZ
  ·rintro D1 F Y hD hfD ⟨rfl,h1,h2,h3⟩ hdef;refine⟨D1,(cvE rfl rfl),h2,hdef,by omega,?_⟩;exact zae (zah hbW) h3
  ·rintro D ex pre F Y hD hfD hpre h;exact h.elim
 clear fN sV;rintro D1 U ⟨fN,fD1,hND,gU⟩;have old:∀ {k:Nat} {o:Obj},k≠N->V.heap[k]?=some o->U.heap[k]?=some o:=fun {k o} hne h=>(gU.block k (hlt h) (by simpa using hne)).trans h;have sU:=gU.size;have hNV:=hbV.size;have f1:=old (by omega) f1;have f2:=old (by omega) f2;have oD:OwnS zaH 5 (L+3) U d cc D:=oD.kept gU fun g hg e=>by
  have:g<N:=dlt _ hg;simp only [Option.some.injEq] at e;omega
 have hwU:Bw w U:=hwV.trans ⟨gU.os,gU.tape,gU.output,gU.size,fun k hk=>gU.block k (by have:=hwV.size;omega) (by simp;omega)⟩;clear f0 old gU hbV hwV;obtain⟨M,hM⟩:=nm (U.heap.size);have hDU:=hlt fD1;refine⟨Option Addr×Nat,fun s=>⟨[(0,.slice q l.length cap),(1,.slice d D.length cc),(6,AtR (L+1)),(7,AtR (L+2)),(9,AtR (M+1))],[{ target := .collected D1,args := #[] }]⟩,fun s Z=>Z.heap[M+1]?=some (.cells [.slice s.1 0 s.2].toArray 209 (0,0))/\OwnS pthE 217 M Z s.1 s.2 []/\(∀ a,s.1=some a->a.block=M)/\Z.heap.size=M+2/\Bw U Z,?_,?_⟩
 ·refine⟨_,zac (zaa fN) (i:=0) rfl,?_⟩;refine zea (E:=pthE) Tryz.underlying209 k217 rfl rfl rfl xs0.length (by show 104*_<=_;omega) (by unfold maxLen;omega) fun Z oZ hbZ' sZ'=>?_;refine zap (X:=Z) (v := .slice (some ⟨U.heap.size,0,none⟩) 0 xs0.length) k209 rfl rfl rfl fun Z2 hbZ2 fZ2 sZ2=>?_;rw [<- hM] at oZ sZ';rw [sZ'] at fZ2 sZ2;refine⟨(some ⟨M,0,none⟩,xs0.length),⟨.cons rfl (.cons rfl (.cons rfl (.cons rfl (.cons (by rw [<- sZ'];rfl) .nil)))),rfl⟩,by rw [hM] at fZ2 ⊢;exact fZ2,oZ.below hbZ2,fun a ha=>by cases ha;rfl,sZ2,hbZ'.trans (hbZ2.mono hbZ'.size)⟩
 clear fN;rintro⟨p0,c0⟩ V ⟨fV,oV,p0M,sV,hbV⟩;dsimp only at fV oV p0M;have f1:=zab hbV f1;have f2:=zab hbV f2;have fD1:=zab hbV fD1;have oD:=oD.below hbV;have hwV:=zst hwU hbV;have hMU:w.heap.size<=M:=by rw [hM];exact hwU.size
 have dlt2:∀ a,d=some a->a.block<N:=dlt;refine cmo ziW ?_;rintro e W ⟨rfl,fi,fd,sW,hbW⟩;have hwW:=zst hwV hbW;have hVM:Bw V W:=hbW;have hI:=zmn (q:=q) (p:=d) (hl.below hwW) (oD.below hbW).row fi fd (fun a ha=>by have:=hqb a ha;have:=hwW.size;omega) (fun a ha=>by have:=dlt a ha;omega) h12 hx (by omega);rw [<- hxs0] at hI;refine zeQ (sgOk _) rfl (lb := #[AtR V.heap.size,AtR (V.heap.size+1)]) rfl rfl hI (Nat.le_refl _) (fun k hk=>⟨?_,rfl⟩) (fun pre vs W ⟨R,b,_,h,_⟩=>by rw [h];rfl) (by decide)
  (fun k=>k=M+1\/k=M) (JPa M W.heap.size (M+1) W) (fun _ _ _ _=>False) (fun k hk=>?_)
  (JPa.iter (by omega) rfl) (fun ex=>⟨fun _ _ _ _ h=>h.elim,fun _ _ _ _ h=>h.elim⟩) ⟨⟨Nat.le_refl _,.inl rfl,fun k hk=>by omega⟩,⟨[],p0,c0,zab hbW fV,⟨oV.below hbW,fun a ha => .inr (p0M a ha)⟩,rfl,fun x hx=>(by cases hx)⟩,Below.refl _ _⟩ ?_ ?_ ?_
 ·rcases hk with ((rfl | rfl) | ⟨a,ha,rfl⟩ | ⟨a,ha,rfl⟩) | h
  ·omega
  ·omega
  ·have:=hqb a ha;have:=hwW.size;omega
  ·have:=dlt a ha;omega
  ·exact h.elim
 ·rcases hk with (rfl | rfl) | ⟨a,ha,rfl⟩ | ⟨a,ha,rfl⟩
  ·omega
  ·omega
  ·have:=hqb a ha;omega
  ·have:=dlt a ha;omega
 ·rintro yl pre x vs F Y hyl hpre hJ ⟨R,b,hlast,rfl,fR⟩ hfy ⟨lo,hlo⟩;have hxR:x=R:=by simpa using hlast
  subst hxR;refine⟨rfl,F,KeepsG.refl _ _,hJ,?_⟩;rintro o Y2 hY2 ⟨⟨h1,h2,h3⟩,⟨xs,p,c,h4,h5,h6,h7⟩,h8⟩;have hbl:b≠yl:=fun e=>by
   rw [e] at fR;rw [fR] at hlo
   cases hlo
  have fR2:RunH Y2 b x:=by rw [hY2];exact (zai hbl).trans fR
  have hmem:x∈xs0:=hpre.subset (by simp);obtain⟨r1,r2⟩:=hR x hmem;have hxl:xs.length=pre.length:=by
   have:=congrArg List.length h6;rw [List.length_map,List.length_map] at this;exact this
  have hpl:pre.length<xs0.length:=by
   obtain⟨t,ht⟩:=hpre;rw [<- ht];simp only [lap,List.length_cons];omega
  have hwY2:Bw w Y2:=hwW.trans (h8.mono hMU);have hd2:Bw Y2 Y2.drew:=(Below.refl _ _).drew;have hwY2d:Bw w Y2.drew:=zst hwY2 hd2;refine DrawE.ord [4,5] [0,1,2,3,4,5] (by kernel_rfl) ?_;refine⟨_,zac (zaa (hdr h4)) (i:=0) rfl,?_⟩;refine cmo (zqQ (hdr fR2) r1 r2 (hG.t32.below hwY2d)) ?_;rintro e Y3 ⟨⟨q1,k1,q2,k2,q3,k3,q4,k4,rfl,o1,o2,o3,o4⟩,hb3⟩;refine⟨hb3,?_⟩;obtain⟨nx,hnx⟩:∃ nx:PthR,nx=(zev x,(q1,k1),(q2,k2),(q3,k3),(q4,k4)):=⟨_,rfl⟩;have hen:pthC (zev x) q1 k1 q2 k2 q3 k3 q4 k4=pthE.enc nx:=by rw [hnx];rfl
  rw [hen];refine⟨⟨by decide,by decide,rfl⟩,pthE.enc nx,zce (pthE.len nx) rfl,?_⟩;have hba:Bw Y3 (Y3.alloc (.cells (pthE.enc nx).toArray 217)):=zba _ _;have sa:(Y3.alloc (.cells (pthE.enc nx).toArray 217)).heap.size=Y3.heap.size+1:=wz _ _;have s3:Y2.heap.size<=Y3.heap.size:=hb3.size;refine⟨hba,?_⟩;have hb2:Bw Y2 (Y3.alloc (.cells (pthE.enc nx).toArray 217)):=(hd2.trans hb3).trans (hba.mono s3);refine zbi (E:=pthE) (T:=217) (B:=M) (l:=xs) (news:=[nx]) (cap:=c) (m:=1) Tryz.underlying209 k217 rfl rfl rfl (h5.own.below hb2) rfl (zaW pthE nx) (by omega) (by omega) (by show (xs.length+1)*104<=_;omega) ?_;intro p2 c2 Y5 o5 g5 hb5 hat;have h4':Y5.heap[M+1]?=some (.cells [.slice p xs.length c].toArray 209 (0,0)):=by
   refine (g5.block (M+1) (hlt (zab hb2 h4)) fun e=>?_).trans (zab hb2 h4)
   cases hp:p with
   | none=>rw [hp] at e;simp [Value.ownBlock] at e
   | some a =>
    rw [hp] at e;simp only [Value.ownBlock,Option.some.injEq] at e;obtain⟨_,_,cur,hcur⟩:=zcB h5.own hp;rw [<- e] at hcur;rw [hcur] at h4;simp at h4
  refine zal k209 h4' (o:=0) (v := .slice p2 (xs++[nx]).length c2) rfl rfl (by show 0<1;decide) rfl fun Z fZ gZ sZ=>?_;have s5:=g5.size;have wr:∀ k,k<Y2.heap.size->k≠M+1->(∀ a,p=some a->k≠a.block)->Z.heap[k]?=Y2.heap[k]?:=fun k hk hne hnp=>by
   refine (gZ.block k (by omega) (by simpa using hne)).trans ((g5.block k (by omega) fun e=>?_).trans (hb2.block k hk))
   cases hp:p with
   | none=>rw [hp] at e;simp [Value.ownBlock] at e
   | some a =>
    rw [hp] at e;simp only [Value.ownBlock,Option.some.injEq] at e;exact hnp a hp e
  have new:∀ k,Y2.heap.size<=k->k<Y3.heap.size->Z.heap[k]?=Y3.heap[k]?:=fun k hk1 hk2=>by
   refine (gZ.block k (by omega) (by simp;omega)).trans ((g5.block k (by omega) fun e=>?_).trans (hba.block k hk2))
   cases hp:p with
   | none=>rw [hp] at e;simp [Value.ownBlock] at e
   | some a =>
    rw [hp] at e;simp only [Value.ownBlock,Option.some.injEq] at e;have:=h3 _ (h5.inF a hp);omega
  have tyne:∀ {α:Type} {E:Enc α} {T c:Nat} {r:Option Addr} {B:Nat} {ll:List α},T≠217->T≠209->OwnS E T B Y2 r c ll->∀ a,r=some a->Z.heap[a.block]?=Y2.heap[a.block]?:=fun {α E T c r B ll} t1 t2 ho a ha=>by
   obtain⟨_,hl2,cur,hcur⟩:=zcB ho ha;refine wr _ hl2 (fun e=>?_) (fun a' ha' e=>?_)
   ·rw [e,h4] at hcur;simp at hcur;exact t2 hcur.2.symm
   ·obtain⟨_,_,cur',hcur'⟩:=zcB h5.own ha';rw [e,hcur'] at hcur;simp at hcur;exact t1 hcur.2.symm
  have inNew:∀ {α:Type} {E:Enc α} {T c:Nat} {r:Option Addr} {ll:List α},OwnS E T Y2.drew.heap.size Y3 r c ll->RowIn E T W.heap.size (fun k=>F k\/(Y2.heap.size<=k/\k<Z.heap.size)) Z r c ll:=fun {α E T c r ll} ho=>by
   refine⟨OwnS.lower (ho.same fun a ha=>?_) h1,fun a ha=>?_⟩
   ·have:=zcB ho ha;exact new _ this.1 this.2.1
   ·have h:=zcB ho ha;have ha1:Y2.heap.size<=a.block:=h.1;exact .inr ⟨ha1,by have:=h.2.1;omega⟩
  refine⟨fun k=>F k\/(Y2.heap.size<=k/\k<Z.heap.size),⟨⟨by omega,.inl h2,fun k hk=>?_⟩,⟨xs++[nx],p2,c2,fZ,⟨o5.kept gZ fun g hg e=>?_,fun a ha=>?_⟩,?_,fun y hy=>?_⟩,?_⟩,⟨gZ.os.trans (g5.os.trans hb2.os),gZ.tape.trans (g5.tape.trans hb2.tape),gZ.output.trans (g5.output.trans hb2.output),by omega,fun k hk hf=>wr k hk (fun e=>hf (by rw [e];exact h2)) (fun a ha e=>hf (by rw [e];exact h5.inF a ha)),fun k hk=>hk.imp id fun h=>h.1⟩⟩
  ·rcases hk with hk | hk
   ·have:=h3 k hk;omega
   ·exact hk.2
  ·have:=zcB o5 hg;obtain⟨_,_,cur,hcur⟩:=this;simp only [Option.some.injEq] at e;have hcur:Y5.heap[g]?=_:=hcur;rw [<- e,h4'] at hcur;simp at hcur
  ·rcases hat a ha with h | h
   ·exact .inl (h5.inF a h)
   ·have:=(zcB o5 ha).2.1;exact .inr ⟨by omega,by omega⟩
  ·rw [List.map_append,h6,List.map_append,hnx];rfl
  ·rcases List.mem_append.1 hy with hy | hy
   ·have h:=h7 y hy;have st:∀ {α:Type} {E:Enc α} {T c:Nat} {r:Option Addr} {ll:List α},T≠217->T≠209->RowIn E T W.heap.size F Y2 r c ll->RowIn E T W.heap.size (fun k=>F k\/(Y2.heap.size<=k/\k<Z.heap.size)) Z r c ll:=fun {α E T c r ll} t1 t2 hh=>⟨hh.own.same fun a ha=>tyne t1 t2 hh.own a ha,fun a ha => .inl (hh.inF a ha)⟩;exact⟨st (by decide) (by decide) h.1,st (by decide) (by decide) h.2.1,st (by decide) (by decide) h.2.2.1,st (by decide) (by decide) h.2.2.2⟩
   ·simp only [List.mem_singleton] at hy;subst hy;rw [hnx];exact⟨inNew o1,inNew o2,inNew o3,inNew o4⟩
  ·refine h8.trans ⟨gZ.os.trans (g5.os.trans hb2.os),gZ.tape.trans (g5.tape.trans hb2.tape),gZ.output.trans (g5.output.trans hb2.output),by omega,fun k hk=>wr k (by omega) (by omega) fun a ha=>?_⟩;have:=(zcB h5.own ha).1;omega
 ·rintro D2 F Y hD hfD ⟨⟨h1,h2,h3⟩,⟨xs,p,c,h4,h5,h6,h7⟩,h8⟩ hdef;have g1:Y.heap[L+1]?=some (.cells #[.slice none 0 0] 209 (0,0)):=(h8.block (L+1) (by omega)).trans (zab hbW f1);have g2:Y.heap[L+2]?=some (.cells #[i64 0] 52 (0,0)):=(h8.block (L+2) (by omega)).trans (zab hbW f2);have gD:Y.heap[D1]?=some (.deferred (some [])):=(h8.block D1 (by omega)).trans (zab hbW fD1);refine⟨_,zac (zaa h4) (i:=0) rfl,?_⟩;refine zal k209 g1 (o:=0) (v := .slice p xs.length c) rfl rfl (by show 0<1;decide) rfl fun Z1 fZ1 gZ1 sZ1=>?_;have g2':=(gZ1.block (L+2) (hlt g2) (by simp)).trans g2;refine zal k52 g2' (o:=0) (v:=i64 0) rfl rfl (by show 0<1;decide) rfl fun Z2 fZ2 gZ2 sZ2=>?_;have hYs:M<Y.heap.size:=by omega
  have k2:∀ k,k<Y.heap.size->k≠L+1->k≠L+2->Z2.heap[k]?=Y.heap[k]?:=fun k hk n1 n2=>(gZ2.block k (by rw [sZ1];exact hk) (by simpa using n2)).trans (gZ1.block k hk (by simpa using n1));have hdef2:=(k2 D2 (hlt hdef) (by omega) (by omega)).trans hdef;have hD12:=(k2 D1 (hlt gD) (by omega) (by omega)).trans gD;have fZ1':=(gZ2.block (L+1) (hlt fZ1) (by simp)).trans fZ1;have neD:D1≠D2:=by omega
  refine⟨_,rfl,hdef2,?_⟩;refine⟨_,rfl,(zai neD).trans hD12,?_⟩;obtain⟨Zf,hZf⟩:=nm ((Z2.putObj D2 (.deferred none)).putObj D1 (.deferred none));have kf:∀ k,k≠D1->k≠D2->Zf.heap[k]?=Z2.heap[k]?:=fun k n1 n2=>by rw [hZf];exact (zai n1).trans (zai n2)
  refine⟨.slice p xs.length c,?_,i64 0,?_,⟨xs,p,c,rfl,h6,?_,fun x hx=>?_⟩,?_⟩
  ·exact zac (zaa (by rw [<- hZf];exact (kf (L+1) (by omega) (by omega)).trans fZ1')) (i:=0) rfl
  ·exact zac (zaa (by rw [<- hZf];exact (kf (L+2) (by omega) (by omega)).trans fZ2)) (i:=0) rfl
  ·rw [<- hZf];refine OwnS.lower (h5.own.same fun a ha=>?_) hMU;have h:=zcB h5.own ha;have n1:a.block≠D2:=fun e=>by rw [<- e] at hfD;exact hfD (h5.inF a ha)
   exact (kf _ (by omega) n1).trans (k2 _ h.2.1 (by omega) (by omega))
  ·have h:=h7 x hx;have st:∀ {α:Type} {E:Enc α} {T c:Nat} {r:Option Addr} {ll:List α},RowIn E T W.heap.size F Y r c ll->OwnS E T w.heap.size Zf r c ll:=fun {α E T c r ll} hh=>by
    refine OwnS.lower (hh.own.same fun a ha=>?_) hwW.size;have h:=zcB hh.own ha;have n1:a.block≠D2:=fun e=>by rw [<- e] at hfD;exact hfD (hh.inF a ha)
    exact (kf _ (by omega) n1).trans (k2 _ h.2.1 (by omega) (by omega))
   rw [<- hZf];exact⟨st h.1,st h.2.1,st h.2.2.1,st h.2.2.2⟩
  ·have hwY:Bw w Y:=hwW.trans (h8.mono hMU);have b1:=(hwY.trans (zak gZ1 hwY.size (by omega))).trans (zak gZ2 (by rw [sZ1];exact hwY.size) (by omega));exact zaP (zaP b1 (by omega) _) (by omega) _
 ·rintro D ex pre F Y hD hfD hpre h;exact h.elim
end
structure RelAt (X:World) (b o:Nat) (T:TypeId) (A Z:List Value) (r:RelD):Prop where
 at_:A.length=o
 cells:X.heap[b]?=some (.cells (A++(relC r++Z)).toArray T (0,0))
section
variable {X:World} {b o:Nat} {T:TypeId} {A Z:List Value} {r:RelD}
theorem RelAt.cell (h:RelAt X b o T A Z r) {i:Nat} (hi:i<48):X.cell? ⟨b,o+1+i*1,none⟩=some (s64 (r.to i)):=by
 have:(A++(relC r++Z))[o+1+i*1]?=some (s64 (r.to i)):=by
  rw [Nat.mul_one,Nat.add_assoc,zbf h.at_,List.getElem?_append_left (by rw [zad];omega),zfq r hi]
 have h2:=zac (zaa h.cells) this;rw [Nat.zero_add] at h2;exact h2
theorem RelAt.set (h:RelAt X b o T A Z r) {i:Nat} (hi:i<48) (v:Nat):(A++(relC r++Z)).set (o+1+i*1) (s64 v)=A++(relC ⟨r.n,upd r.to i v⟩++Z):=by
 rw [Nat.mul_one,Nat.add_assoc,zbA h.at_,List.set_append_left _ _ (by rw [zad];omega),ze4 r hi]
theorem RelAt.len (h:RelAt X b o T A Z r):(A++(relC r++Z)).length=o+49+Z.length:=by
 rw [lap,lap,zad,h.at_];omega
theorem RelAt.same {Y:World} (h:RelAt X b o T A Z r) (hs:Y.heap[b]?=X.heap[b]?):RelAt Y b o T A Z r:=⟨h.at_,hs.trans h.cells⟩
def zpj (f:Nat) (ps:List (Nat×Nat)):Prop:=∀ p∈ps,f+p.1<48/\f+p.2<48
theorem ze5 {f:Nat}:∀ {ps:List (Nat×Nat)} {to:Nat->Nat},WrdR to->zpj f ps->WrdR (putF f ps to)
 | [],_,h,_=>h
 | p::ps,to,h,hp=>by
  have h1:=hp p List.mem_cons_self;exact ze5 (ps:=ps) (zgN h (Nat.or_lt_two_pow (h _ h1.1) (zaF (by omega)))) fun q hq=>hp q (List.mem_cons_of_mem _ hq)
theorem zlb {n:Nat} (h:n<256):((UInt8.ofNat n).toNat:Int)=(n:Nat):=by
 have:(UInt8.ofNat n).toNat=n:=by simp;omega
 rw [this]
theorem zpi {w:World} {q:Option Addr} {cap f:Nat} {ps:List (Nat×Nat)} (hr:RelAt w b o T A Z r) (hw:WrdR r.to) (hl:SlR prE w q ps) (hqb:∀ a,q=some a->a.block≠b) (hn:ps.length<=100000) (hp:zpj f ps) :
  Calls Tryz.prog 208 #[.pointer (some ⟨b,o,none⟩),.slice q ps.length cap,i64 f] w fun e w'=>e = .returned (.tuple #[])/\RelAt w' b o T A Z (putR f ps r)/\w.grownBy w' (some b):=by
 refine cofE 35 [.pointer (some ⟨b,o,none⟩),.slice q ps.length cap,i64 f] Tryz.func208 ?_;have hbw:=hlt hr.cells;refine⟨Nat×(Nat->Nat),fun s=>⟨[(0,.pointer (some ⟨b,o,none⟩)),(1,.slice q ps.length cap),(2,i64 f),(8,.slice q ps.length cap),(9,i64 ps.length),(10,i64 (s.1:Nat))],[]⟩,
  fun s X=>s.1<=ps.length/\WrdR s.2/\putF f (ps.drop s.1) s.2=putF f ps r.to/\RelAt X b o T A Z ⟨r.n,s.2⟩/\w.grownBy X (some b),fun s=>ps.length-s.1,(0,r.to),
  (cvE rfl rfl),⟨Nat.zero_le _,hw,rfl,hr,za7 _ _⟩,?_⟩
 rintro⟨k,g⟩ X ⟨hk,hg,he,hX,gX⟩;dsimp only at hk hg he hX ⊢;have hXs:=gX.size;refine biE (fun hc=>?_) fun hc=>?_
 ·have hc:(k:Int)<(ps.length:Int):=dT hc;have hkl:k<ps.length:=by omega
  obtain⟨pr,hpr⟩:∃ pr,ps[k]=pr:=⟨_,rfl⟩;obtain⟨p1,p2⟩:=hp pr (by rw [<- hpr];exact gM hkl);rw [<- List.getElem_cons_drop hkl,hpr] at he;have he:putF f (ps.drop (k+1)) (upd g (f+pr.1) (g (f+pr.1)|||2^(f+pr.2)))=putF f ps r.to:=he;obtain⟨bp,op,rfl,hlp,hat⟩:=hl.at hkl;have hbp:bp≠b:=hqb _ rfl;have hatX:zax X ⟨bp,op+k*2,none⟩ (prE.enc ps[k]):=zaY (gX.block bp hlp (by simpa using hbp)) (hat k hkl);refine⟨k,rfl,hkl,?_⟩;refine⟨prE.enc pr,rfl,by rw [<- hpr];exact hatX,nL hlp hXs,?_⟩;refine zap (X:=X) (v := .agg (prE.enc pr).toArray) k343 rfl rfl rfl fun Y hbY fY sY=>?_;refine DrawE.ord [20] [0,1,2,3,4,5,6,7,8,9,10,11,12,13,14,15,16,17,18,19,20] (by kernel_rfl) ?_;have fY1:Y.heap[X.heap.size]?=some (.cells (prE.enc pr).toArray 343 (0,0)):=fY;have hrY:=hX.same (hbY.block b (nL hbw hXs));refine⟨0,rfl,by decide,?_⟩;refine⟨u8 (UInt8.ofNat pr.1),zac (zaa (hdr fY1)) (i:=0*1) rfl,?_⟩;refine⟨((pr.1:Nat):Int),by rw [zlb (by omega)];exact zaf (by omega),?_⟩;refine⟨((f+pr.1:Nat):Int),(zaf (by omega)).trans (by omega),?_⟩;refine⟨f+pr.1,rfl,by omega,?_⟩;refine⟨s64 (g (f+pr.1)),(hrY.same (Y:=Y.drew) rfl).cell p1,?_⟩;refine⟨1,rfl,by decide,?_⟩;refine⟨u8 (UInt8.ofNat pr.2),zac (zaa (hdr fY1)) (i:=1*1) rfl,?_⟩;refine⟨((pr.2:Nat):Int),by rw [zlb (by omega)];exact zaf (by omega),?_⟩;refine⟨((f+pr.2:Nat):Int),(zaf (by omega)).trans (by omega),?_⟩;refine⟨by omega,_,zby (e:=f+pr.2) (by omega),?_⟩;refine⟨_,zb2 (hg _ p1) (zaF (by omega)),?_⟩;refine⟨f+pr.1,rfl,by omega,?_⟩;refine zal k99 (hrY.same (Y:=Y.drew) rfl).cells (o:=o+1+(f+pr.1)*1) (v:=s64 (g (f+pr.1)|||2^(f+pr.2))) rfl rfl (by rw [hrY.len];omega) rfl fun S fS gS sS=>?_;rw [hrY.set p1] at fS;refine nxI (by omega) ?_;exact⟨(k+1,_),(cvE rfl rfl),⟨hkl,zgN hg (Nat.or_lt_two_pow (hg _ p1) (zaF (by omega))),he,⟨hr.at_,fS⟩,zae gX (zae (zah hbY) (zae (zah (Below.refl _ Y).drew) gS))⟩,zdc (by omega)⟩
 ·have hc:¬ (k:Int)<(ps.length:Int):=dF hc;obtain rfl:k=ps.length:=by omega
  rw [List.drop_length] at he;have he:g=putF f ps r.to:=he;subst he;exact⟨rfl,hX,gX⟩
end
def StBk (pre:List Nat) (vs:List Value) (W:World):Prop:=∃ (a i:Nat),pre.getLast?=some a/\vs=[i64 i,i64 a]
theorem zry {bx:Nat} {l:List Nat} {q:Option Addr} {c:Nat} {W0:World} (fx:W0.heap[bx]?=some (.cells #[.slice q l.length c] 150 (0,0))) (hl:SlR natE W0 q l) (hql:∀ a,q=some a->a.block<W0.heap.size) (hn:l.length<=100000) :
  zkT Tryz.prog 250 [At0 bx] l.reverse W0 (fun k=>k=bx\/∃ a,q=some a/\k=a.block) (fun _=>False) StBk:=by
 intro yl F0 J Jx W hsz hrd hrf hJ hJx hy h0;have fxW:=(hrd bx (.inl (.inl rfl))).trans fx;have hlW:SlR natE W q l:=za4 hl fun a ha=>hrd _ (.inl (.inr ⟨a,ha,rfl⟩));have hbxW:=hlt fxW;refine cofE 19 [.func (.yield yl) #[] #[],At0 bx] Tryz.func250 ?_;refine⟨_,zac (zaa fxW) (i:=0) rfl,?_⟩;refine⟨((l.length:Nat):Int)-1,zaf (by omega),?_⟩;refine⟨Nat×(Nat->Prop),fun s=>⟨[(0,.func (.yield yl) #[] #[]),(1,At0 bx),(3,i64 (((l.length:Nat):Int)-1-(s.1:Nat)))],[]⟩,
  fun s V=>s.1<=l.length/\J (l.reverse.take s.1) s.2 V/\W.heap.size<=V.heap.size/\V.heap[bx]?=some (.cells #[.slice q l.length c] 150 (0,0))/\¬ s.2 bx/\RowF natE W.heap.size s.2 V q l,fun s=>l.length-s.1,(0,F0),
  ⟨.cons rfl (.cons rfl (.cons (by show _=some (i64 (((l.length:Nat):Int)-1-((0:Nat):Int)));rw [Int.ofNat_zero,Int.sub_zero];rfl) .nil)),rfl⟩,⟨Nat.zero_le _,h0,Nat.le_refl _,fxW,hrf _ (.inl rfl),⟨hlW,fun a ha=>⟨by have:=hql a ha;omega,hrf _ (.inr ⟨a,ha,rfl⟩)⟩⟩⟩,?_⟩
 rintro⟨t,F⟩ V ⟨ht,hjV,hWV,fxV,hbF,hqV⟩;dsimp only at ht hjV hbF hqV ⊢;refine biE (fun hi=>?_) fun hi=>?_
 ·have hi:(0:Int)<=((l.length:Nat):Int)-1-(t:Nat):=dT hi;obtain⟨i,hit⟩:∃ i,i+t+1=l.length:=⟨l.length-1-t,by omega⟩;have hii:((l.length:Nat):Int)-1-(t:Nat)=(i:Nat):=by omega
  rw [hii];have hil:i<l.length:=by omega
  have hrt:l.reverse[t]?=some l[i]:=by
   rw [List.getElem?_reverse (by omega),show l.length-1-t=i by omega,gE hil]
  have htl:t<l.reverse.length:=by rw [List.length_reverse];omega
  have hre:l.reverse[t]=l[i]:=by rw [gE htl] at hrt;exact Option.some.inj hrt
  have htk:l.reverse.take (t+1)=l.reverse.take t++[l[i]]:=by rw [tsg htl,hre]
  refine⟨_,zac (zaa fxV) (i:=0) rfl,?_⟩;obtain⟨bq,oq,hqe,hlq,hatq⟩:=hqV.row.at hil;subst hqe;refine⟨i,rfl,hil,?_⟩;refine⟨i64 l[i],zac (hatq i hil) (i:=0) rfl,?_⟩;refine YieldR.mono (hy _ l[i] [i64 (i:Nat),i64 l[i]] F V hjV ⟨l[i],i,by simp,rfl⟩ (by rw [<- htk];exact List.take_prefix _ _)) ?_;rintro v Y (⟨rfl,F',hjY,kY⟩ | ⟨rfl,F',hjY⟩)
  ·refine brF ?_;have hbF':¬ F' bx:=fun h=>by
    rcases kY.fp bx h with h | h
    ·exact hbF h
    ·have:=hlt fxV;omega
   refine⟨((l.length:Nat):Int)-1-((t+1:Nat):Int),(zaf (by omega)).trans (by omega),?_⟩;exact⟨(t+1,F'),(cvE rfl rfl),⟨by omega,by rw [htk];exact hjY,Nat.le_trans hWV kY.size,(kY.same bx (hlt fxV) hbF).trans fxV,hbF',hqV.keep hWV kY (fun _ _ h=>h)⟩,zdc (by omega)⟩
  ·refine brT ?_;exact⟨⟨_,rfl⟩,.inr ⟨_,F',by rw [<- htk];exact List.take_prefix _ _,hjY⟩⟩
 ·have hi:¬ (0:Int)<=((l.length:Nat):Int)-1-(t:Nat):=dF hi;have hte:t=l.length:=by omega
  subst hte;rw [List.take_of_length_le (by rw [List.length_reverse];exact Nat.le_refl _)] at hjV;exact⟨⟨_,rfl⟩,.inl ⟨F,hjV⟩⟩
theorem zqm {q:Option Addr} {n c:Nat} {w:World}:Calls Tryz.prog 213 #[.slice q n c] w fun e w'=>e = .returned (.func (.func 250) #[] #[At0 w.heap.size])/\w'.heap[w.heap.size]?=some (.cells #[.slice q n c] 150 (0,0))/\w'.heap.size=w.heap.size+1/\Bw w w':=by
 refine cofE 4 [.slice q n c] Tryz.func213 ?_;exact⟨rfl,hnew w _,wz _ _,(zba w _)⟩
theorem zoy {q:Option Addr} {n c:Nat} {w:World}:Calls Tryz.prog 143 #[.slice q n c] w fun e w'=>e = .returned (.func (.func 205) #[] #[At0 w.heap.size])/\w'.heap[w.heap.size]?=some (.cells #[.slice q n c] 150 (0,0))/\w'.heap.size=w.heap.size+1/\Bw w w':=by
 refine cofE 4 [.slice q n c] Tryz.func143 ?_;exact⟨rfl,hnew w _,wz _ _,(zba w _)⟩
def linS (p:(Nat->Nat)×Nat) (a:Nat):(Nat->Nat)×Nat:=(upd p.1 a p.2,p.2|||2^a)
theorem zez:∀ (l:List Nat) (f:Nat->Nat) (b:Nat),znM l f b=(l.foldl linS (f,b)).1
 | [],_,_=>rfl
 | a::l,f,b=>zez l (upd f a b) (b|||2^a)
theorem ziL:∀ {l:List Nat} {f:Nat->Nat} {b:Nat},WrdR f->b<2^64->(∀ a∈l,a<48)->WrdR (l.foldl linS (f,b)).1/\(l.foldl linS (f,b)).2<2^64
 | [],_,_,h,hb,_=>⟨h,hb⟩
 | a::l,f,b,h,hb,hl=>ziL (l:=l) (zgN h hb) (Nat.or_lt_two_pow hb (zaF (by have:=hl a List.mem_cons_self;omega))) fun x hx=>hl x (List.mem_cons_of_mem _ hx)
theorem zhS {l:List Nat} {r:RelD} (h:WrdR r.to) (hl:∀ a∈l,a<48):WrdR (zdd l r).to:=by
 show WrdR (znM l.reverse r.to 0);rw [zez];exact (ziL h (by decide) fun a ha=>hl a (by simpa using ha)).1
section
variable {b o:Nat} {T:TypeId} {A Z:List Value} {r:RelD} {w:World} {q:Option Addr} {c:Nat} {l:List Nat}
theorem zoD (hr:RelAt w b o T A Z r) (hw:WrdR r.to) (hl:SlR natE w q l) (hql:∀ a,q=some a->a.block<w.heap.size/\a.block≠b) (hn:l.length<=100000) (h48:∀ a∈l,a<48) :
  Calls Tryz.prog 148 #[.pointer (some ⟨b,o,none⟩),.slice q l.length c] w fun e w'=>e = .returned (.tuple #[])/\RelAt w' b o T A Z (zdd l r)/\w.grownBy w' (some b):=by
 refine cofM 21 [.pointer (some ⟨b,o,none⟩),.slice q l.length c] (.s .p (.c .p .p)) Tryz.func148 ?_;obtain⟨L,hL⟩:=nm (w.heap.size);refine⟨Unit,fun _=>⟨[(1,.slice q l.length c),(2,At0 L),(4,At0 (L+1))],[]⟩,fun _ X=>X.heap[L]?=some (.cells #[.pointer (some ⟨b,o,none⟩)] 227 (0,0))/\X.heap[L+1]?=some (.cells #[s64 0] 99 (0,0))/\X.heap.size=L+2/\Bw w X,?_,?_⟩
 ·have s1:=wz w (.cells #[.pointer (some ⟨b,o,none⟩)] 227 (0,0));have h2:=hnew (w.alloc (.cells #[.pointer (some ⟨b,o,none⟩)] 227 (0,0))) (.cells #[s64 0] 99 (0,0));have s2:=wz (w.alloc (.cells #[.pointer (some ⟨b,o,none⟩)] 227 (0,0))) (.cells #[s64 0] 99 (0,0));rw [s1] at h2 s2;exact⟨(),⟨.cons rfl (.cons (by rw [hL];rfl) (.cons (by rw [hL,<- s1];rfl) .nil)),rfl⟩,by rw [hL];exact hold _ (hnew w _),by rw [hL];exact h2,by rw [hL];exact s2,((zba w _)).alloc (by simp) _⟩
 rintro _ X ⟨f0,f1,sX,hbX⟩;have hbw:=hlt hr.cells;refine cmo zqm ?_;rintro e W ⟨rfl,fx,sW,hbW⟩;have hwW:=zst hbX hbW;have hI:=zry fx (hl.below hwW) (fun a ha=>by have:=(hql a ha).1;omega) hn;have f0:=zab hbW f0;have f1:=zab hbW f1;refine zeQ (sgOk _) rfl (lb := #[At0 X.heap.size]) rfl rfl hI (Nat.le_refl _) (fun k hk=>⟨?_,rfl⟩) (fun pre vs W ⟨a,i,_,h⟩=>by rw [h];rfl) (by decide)
  (fun k=>k=b\/k=L+1) (fun pre F Y=>F=(fun k=>k=b\/k=L+1)/\W.heap.size<=Y.heap.size/\RelAt Y b o T A Z ⟨r.n,(pre.foldl linS (r.to,0)).1⟩/\Y.heap[L+1]?=some (.cells [s64 (pre.foldl linS (r.to,0)).2].toArray 99 (0,0))/\Y.heap[L]?=some (.cells #[.pointer (some ⟨b,o,none⟩)] 227 (0,0))/\w.grownBy Y (some b)) (fun _ _ _ _=>False) (fun k hk=>?_)
  (joG (F:=fun k=>k=b\/k=L+1) (J:=fun (pre:List Nat) Y=>W.heap.size<=Y.heap.size/\RelAt Y b o T A Z ⟨r.n,(pre.foldl linS (r.to,0)).1⟩/\Y.heap[L+1]?=some (.cells [s64 (pre.foldl linS (r.to,0)).2].toArray 99 (0,0))/\Y.heap[L]?=some (.cells #[.pointer (some ⟨b,o,none⟩)] 227 (0,0))/\w.grownBy Y (some b))
   (fun k h=>by omega) (fun s A h=>h.1) (fun pre A B ⟨h1,h2,h3,h4,h5⟩ hb=>⟨Nat.le_trans h1 hb.size,h2.same (hb.block _ (by omega)),zbI hb (by omega) h3,zbI hb (by omega) h4,za6 h5 (hb.mono hwW.size)⟩))
  (fun ex=>⟨fun _ _ _ _ h=>h.elim,fun _ _ _ _ h=>h.elim⟩) ⟨rfl,Nat.le_refl _,hr.same (hwW.block _ hbw),f1,f0,zah hwW⟩ ?_ ?_ ?_
 ·rcases hk with (rfl | ⟨a,ha,rfl⟩) | h
  ·omega
  ·have:=(hql a ha).1;have:=hwW.size;omega
  ·exact h.elim
 ·rcases hk with rfl | ⟨a,ha,rfl⟩
  ·omega
  ·have:=hql a ha;omega
 ·rintro yl pre x vs F Y hyl hpre hJ ⟨a,i,hlast,rfl⟩ hfy hlo;have hxa:x=a:=by simpa using hlast
  subst hxa;refine⟨rfl,F,KeepsG.refl _ _,hJ,?_⟩;rintro O Y2 hY2 ⟨rfl,h1,h2,h3,h4,h5⟩;obtain⟨g1,g2⟩:=ziL (l:=pre) (f:=r.to) (b:=0) hw (by decide) (fun a ha=>h48 a (by have:=hpre.subset (List.mem_append_left _ ha);simpa using this));have hx48:x<48:=h48 x (by have:=hpre.subset (List.mem_append_right _ (List.mem_singleton.2 rfl));simpa using this);have hfold:(pre++[x]).foldl linS (r.to,0)=linS (pre.foldl linS (r.to,0)) x:=by rw [List.foldl_append];rfl
  obtain⟨P,hP⟩:=nm (pre.foldl linS (r.to,0));rw [<- hP] at h2 h3 g1 g2 hfold;refine DrawE.ord [6] [0,1,2,3,4,5,6] (by kernel_rfl) ?_;refine⟨_,zac (zaa (hdr h4)) (i:=0) rfl,?_⟩;refine⟨_,zac (zaa (hdr h3)) (i:=0) rfl,?_⟩;refine⟨x,rfl,hx48,?_⟩;refine zal k99 (h2.same (Y:=Y2.drew) rfl).cells (o:=o+1+x*1) (v:=s64 P.2) rfl rfl (by rw [h2.len];omega) rfl fun S fS gS sS=>?_;rw [h2.set hx48] at fS;have gS2:Y2.grownBy S (some b):=zae (zah (Below.refl _ Y2).drew) gS;have h3S:=(gS2.block (L+1) (hlt h3) (by simp;omega)).trans h3;refine DrawE.ord [4] [0,1,2,3,4] (by kernel_rfl) ?_;refine⟨_,zac (zaa (hdr h3S)) (i:=0) rfl,?_⟩;refine⟨by omega,_,zby (e:=x) (by omega),?_⟩;refine⟨_,zb2 g2 (zaF (by omega)),?_⟩;refine zal k99 (hdr h3S) (o:=0) (v:=s64 (P.2|||2^x)) rfl rfl (by show 0<1;decide) rfl fun V fV gV sV=>?_;have gV2:S.grownBy V (some (L+1)):=zae (zah (Below.refl _ S).drew) gV;have hLw:L=w.heap.size:=hL;refine⟨fun k=>k=b\/k=L+1,⟨rfl,?_,⟨hr.at_,?_⟩,by rw [hfold];exact fV,?_,?_⟩,(KeepsG.grown gS2 (.inl rfl)).trans (KeepsG.grown gV2 (.inr rfl))⟩
  ·have:=gS2.size;have:=gV2.size;omega
  ·rw [hfold];exact (gV2.block b (hlt fS) (by simp;omega)).trans fS
  ·exact (gV2.block L (nL (hlt h4) gS2.size) (by simp)).trans ((gS2.block L (hlt h4) (by simp;omega)).trans h4)
  ·exact⟨gV2.os.trans (gS2.os.trans h5.os),gV2.tape.trans (gS2.tape.trans h5.tape),gV2.output.trans (gS2.output.trans h5.output),by have:=gS2.size;have:=gV2.size;have:=h5.size;omega,fun k hk hne=>(gV2.block k (by have:=gS2.size;have:=h5.size;omega) (by simp;omega)).trans ((gS2.block k (by have:=h5.size;omega) hne).trans (h5.block k hk hne))⟩
 ·rintro D F Y hD hfD ⟨rfl,h1,h2,h3,h4,h5⟩ hdef;refine⟨_,rfl,hdef,?_⟩;have hDb:b≠D:=by have:=hwW.size;omega
  refine⟨rfl,⟨hr.at_,?_⟩,?_⟩
  ·rw [show zdd l r=⟨r.n,(l.reverse.foldl linS (r.to,0)).1⟩ by unfold zdd;rw [zez]];exact (zai hDb).trans h2.cells
  ·exact⟨h5.os,h5.tape,h5.output,by have:=h5.size;simpa [World.putObj] using this,fun k hk hne=>(zai (by have:=hwW.size;omega)).trans (h5.block k hk hne)⟩
 ·rintro D ex pre F Y hD hfD hpre h;exact h.elim
end
theorem ziz {P:Program} {iT:TI} {T B g cap i v:Nat} {l:List Nat} {w:World} (hT:TIok P T iT) (hs:iT.size=1) (h:OwnS natE T B w (some ⟨g,0,none⟩) cap l) (hi:i<l.length) {K:World->Prop}
  (k:∀ w',OwnS natE T B w' (some ⟨g,0,none⟩) cap (l.set i v)->w.grownBy w' (some g)->K w'):SatR ((storeVar T ⟨g,0+i*1,none⟩ (i64 v)).run P w) fun _ w'=>K w':=by
 rcases h.inv with ⟨h,_⟩ | ⟨g',cur,hg,hB,hc,hl,hm,hs2,ht⟩
 ·cases h
 ·simp only [Option.some.injEq,Addr.mk.injEq,and_true] at hg;subst hg;have e:cur=cur.toList.toArray:=rfl;have hsz:cur.toList.length=cap:=by
   have:cur.toList.length=cur.size:=rfl;rw [this,hs2];exact Nat.mul_one _
  refine zal hT (cs:=cur.toList) (by rw [<- e];exact hc) (o:=0+i*1) (v:=i64 v) rfl hs (by omega) rfl fun w' fw gw sw=>k w' ?_ gw;unfold OwnS World.ownsRow;have ht:cur.toList.take (l.length*1)=l.flatMap natE.enc:=ht;refine⟨by rw [zaG],.inr ⟨g,cap,_,rfl,hB,fw,by rw [List.length_set];exact hl,hm,?_,?_⟩⟩
  ·show (cur.toList.set (0+i*1) (i64 v)).length=_;rw [List.length_set];exact hs2
  ·show (cur.toList.set (0+i*1) (i64 v)).take ((l.set i v).length*1)=_;rw [Nat.mul_one,Nat.zero_add,Nat.mul_one,List.length_set,List.take_set,<- Nat.mul_one l.length,ht,ze9,ze9];unfold rowI;rw [List.map_set]
theorem zpM {before:Nat->Nat}:∀ (m left:Nat) (l:List Nat),∀ x∈extR before m left l,∀ a∈x,a∈l\/a∈els left:=by
 intro m
 induction m with
 | zero =>
  intro left l x hx a ha;unfold extR at hx
  split at hx
  ·rw [List.mem_singleton.1 hx] at ha;exact .inl ha
  ·cases hx
 | succ m ih =>
  intro left l x hx a ha;unfold extR at hx
  split at hx
  ·rw [List.mem_singleton.1 hx] at ha;exact .inl ha
  ·obtain⟨b,hb,hx⟩:=List.mem_flatMap.1 hx
   split at hx
   ·rcases ih _ _ x hx a ha with h | h
    ·rcases List.mem_append.1 h with h | h
     ·exact .inl h
     ·rw [List.mem_singleton.1 h];exact .inr hb
    ·refine .inr ?_;unfold els at h ⊢;rw [List.mem_filter] at h ⊢;refine⟨h.1,?_⟩;have h2:=h.2;unfold zdA at h2;rw [Nat.testBit_and,bAT] at h2;exact h2.1
   ·cases hx
theorem zpp {r:RelD} {n:Nat} (hr:r.n=n) (hn:n<=64) {x:List Nat} (h:x∈ordR r) {a:Nat} (ha:a∈x):a<n:=by
 unfold ordR at h
 split at h
 ·rcases zpM _ _ _ x h a ha with h | h
  ·cases h
  ·rw [zf4,hr,ziX hn] at h;exact List.mem_range.1 h
 ·cases h
abbrev crs (n:Nat):RelD:=zh4 n 1 (zdA (allM n) 1)
theorem zrq:∀ n,n<=48->okR (crs n)=true:=by
 intro n hn;have h:(List.range 49).all (fun n=>okR (crs n))=true:=by kernel_rfl
 rw [List.all_eq_true] at h;exact h n (List.mem_range.2 (by omega))
theorem zqp (n:Int):allM n<2^64:=zc1 n
theorem zp2 (n:Nat):WrdR (crs n).to:=fun i _=>by
 show (if i<n then (if Nat.testBit 1 i then zdA (allM n) 1&&&allM n else 0) else 0)<2^64
 split
 ·split
  ·exact Nat.lt_of_le_of_lt Nat.and_le_right (zqp n)
  ·decide
 ·decide
def rowG (ws:List Nat) (o:List Nat):List Nat:=o.map fun k=>ws.getD k 0
theorem zph {ws o:List Nat} {i:Nat} (hi:i<o.length) (h:i<(rowG ws (o.take i)++o.drop i).length):(rowG ws (o.take i)++o.drop i)[i]=o[i]:=by
 have hl:(rowG ws (o.take i)).length=i:=by unfold rowG;rw [List.length_map,List.length_take,Nat.min_eq_left (by omega)]
 have h2:(rowG ws (o.take i)++o.drop i)[i]?=o[i]?:=by
  rw [List.getElem?_append_right (by omega),hl,Nat.sub_self,List.getElem?_drop,Nat.add_zero]
 rw [gE h,gE hi] at h2;exact Option.some.inj h2
theorem zns {ws o:List Nat} {i:Nat} (hi:i<o.length) (ho:o[i]<ws.length):(rowG ws (o.take i)++o.drop i).set i ws[o[i]]=rowG ws (o.take (i+1))++o.drop (i+1):=by
 have hl:(rowG ws (o.take i)).length=i:=by unfold rowG;rw [List.length_map,List.length_take,Nat.min_eq_left (by omega)]
 rw [List.set_append_right _ _ (by omega),hl,Nat.sub_self,<- List.getElem_cons_drop hi,List.set_cons_zero,tsg hi];unfold rowG;rw [List.map_append,List.append_assoc,List.map_cons,List.map_nil,gDe,gE ho];rfl
section
variable {q:Option Addr} {c:Nat} {ws:List Nat} {w:World}
theorem znC (hl:SlR natE w q ws) (hn:ws.length<=48) (hT:Tz64M w) :
  Calls Tryz.prog 146 #[.slice q ws.length c] w fun e w'=>(∃ (xs:List (List Nat×Option Addr×Nat)) (p:Option Addr) (c':Nat),e = .returned (.slice p xs.length c')/\xs.map (·.1)=zcF ws/\OwnS zbt 150 w.heap.size w' p c' xs/\∀ x∈xs,OwnS natE 3 w.heap.size w' x.2.1 x.2.2 x.1)/\Bw w w':=by
 refine cofM 44 [.slice q ws.length c] (.s .p (.s .p (.c .p .p))) Tryz.func146 ?_;obtain⟨B,hB⟩:=nm (w.heap.size);refine⟨List (List Nat×Option Addr×Nat)×Option Addr×Nat,fun s=>⟨[(0,.slice q ws.length c),(4,.slice s.2.1 s.1.length s.2.2)],[]⟩,fun s X=>(zcF ws=(s.1.map (·.1)).map (rowG ws)/\AscB s.1/\s.1.length<=10000/\∀ x∈s.1,x.1.length<=64/\∀ a∈x.1,a<ws.length)/\OwnS zbt 150 B X s.2.1 s.2.2 s.1/\(∀ x∈s.1,OwnS natE 3 B X x.2.1 x.2.2 x.1)/\Bw w X,?_,?_⟩
 ·refine cmo zkZ ?_;rintro e _ ⟨rfl,rfl⟩;refine⟨_,zdn (zc1 _) (by decide:1<2^64),?_⟩;refine cmo (zqB (n:=ws.length) (a:=1) (b:=zb5 (allN ws.length) 1) hn (by decide) (zg6 (zc1 _))) ?_;rintro e X ⟨rfl,hbX⟩;refine cmo (zom (r:=crs ws.length) (m:=10000) (zp2 _) (hT.below hbX) (Nat.le_refl _) (zrq _ hn)) ?_;rintro e Y ⟨⟨hm,xs,p,c',rfl,hxs,hasc,ho,hx⟩ | ⟨hm,rfl⟩,hbY⟩
  ·refine⟨(xs,p,c'),(cvE rfl rfl),⟨?_,hasc,?_,fun x hx=>?_⟩,ho.lower (by rw [hB];exact hbX.size),fun x h=>(hx x h).lower (by rw [hB];exact hbX.size),(zst hbX hbY)⟩
   ·show zcF ws=(xs.map (·.1)).map (rowG ws);rw [hxs];unfold zcF;exact if_pos hm
   ·show xs.length<=10000;rw [<- hxs,List.length_map] at hm;exact hm
   ·have hmem:x.1∈ordR (crs ws.length):=(by rw [<- hxs];exact List.mem_map.2 ⟨x,hx,rfl⟩);exact⟨zlM hmem,fun a ha=>zpp rfl (by omega) hmem ha⟩
  ·refine⟨([],none,0),(cvE rfl rfl),⟨?_,List.Pairwise.nil,Nat.zero_le _,fun x hx=>(by cases hx)⟩,OwnS.nil,fun x hx=>(by cases hx),(zst hbX hbY)⟩;show zcF ws=[];unfold zcF;exact if_neg (by show ¬ (ordR (crs ws.length)).length<=10000;omega)
 rintro⟨xs,p,c'⟩ X ⟨⟨hrk,hasc,hxl,hxx⟩,ho,hx,hbX⟩;dsimp only at hrk hasc hxl hxx ho hx ⊢;have hbs:=hbX.size;refine⟨Nat,fun k=>⟨[(0,.slice q ws.length c),(4,.slice p xs.length c'),(21,.slice p xs.length c'),(22,i64 xs.length),(23,i64 (k:Nat))],[]⟩,
  fun k Z=>k<=xs.length/\OwnS zbt 150 B Z p c' xs/\(∀ x∈xs.take k,OwnS natE 3 B Z x.2.1 x.2.2 (rowG ws x.1))/\(∀ x∈xs.drop k,OwnS natE 3 B Z x.2.1 x.2.2 x.1)/\Bw w Z,fun k=>xs.length-k,0,
  (cvE rfl rfl),⟨Nat.zero_le _,ho,fun x h=>(by rw [List.take_zero] at h;cases h),fun x h=>hx x h,hbX⟩,?_⟩
 clear ho hx hbX hbs;rintro k Z ⟨hk,ho,htk,hdr,hbZ⟩;have hbs:=hbZ.size;refine biE (fun hc=>?_) fun hc=>?_
 ·have hc:(k:Int)<(xs.length:Int):=dT hc;have hkl:k<xs.length:=by omega
  obtain⟨x,hxk⟩:∃ x,xs[k]=x:=⟨_,rfl⟩;have hxm:x∈xs:=by rw [<- hxk];exact gM hkl
  obtain⟨hx64,hxa⟩:=hxx x hxm;have hsplit:xs=xs.take k++x::xs.drop (k+1):=by rw [<- hxk,List.getElem_cons_drop,List.take_append_drop]
  have hdrop:xs.drop k=x::xs.drop (k+1):=by rw [<- hxk,List.getElem_cons_drop]
  have hox:OwnS natE 3 B Z x.2.1 x.2.2 x.1:=hdr x (by rw [hdrop];simp);obtain⟨bp,op,hpe,hlp,hat⟩:=ho.row.at hkl;subst hpe;refine⟨k,rfl,hkl,?_⟩;refine⟨.slice x.2.1 x.1.length x.2.2,by rw [<- hxk];exact zac (hat k hkl) (i:=0) rfl,?_⟩;refine⟨Nat,fun i=>⟨[(0,.slice q ws.length c),(4,.slice (some ⟨bp,op,none⟩) xs.length c'),(7,.slice x.2.1 x.1.length x.2.2),(21,.slice (some ⟨bp,op,none⟩) xs.length c'),(22,i64 xs.length),(23,i64 (k:Nat)),(27,.slice x.2.1 x.1.length x.2.2),(28,i64 x.1.length),(29,i64 (i:Nat))],[]⟩,
   fun i V=>i<=x.1.length/\OwnS natE 3 B V x.2.1 x.2.2 (rowG ws (x.1.take i)++x.1.drop i)/\Z.grownBy V (x.2.1.map Addr.block),fun i=>x.1.length-i,0,
   (cvE rfl rfl),⟨Nat.zero_le _,hox,za7 _ _⟩,?_⟩
  rintro i V ⟨hi,hoV,gV⟩;refine biE (fun hc=>?_) fun hc=>?_
  ·have hc:(i:Int)<(x.1.length:Int):=dT hc;have hil:i<x.1.length:=by omega
   have hlen:(rowG ws (x.1.take i)++x.1.drop i).length=x.1.length:=by
    unfold rowG;simp;omega
   have hgi:(rowG ws (x.1.take i)++x.1.drop i)[i]'(by omega)=x.1[i]:=by
    exact zph hil (by omega)
   obtain⟨b',o',hqe,hlq,hat'⟩:=hoV.row.at (i:=i) (by omega);have hao:=hxa x.1[i] (gM hil);obtain⟨bw,ow,hwe,hlw,hatw⟩:=hl.at hao;subst hwe;have hq0:∃ g,x.2.1=some ⟨g,0,none⟩:=by
    rcases hoV.inv with ⟨h,_⟩ | ⟨g,cur,h,_⟩
    ·rw [h] at hqe;cases hqe
    ·exact⟨g,h⟩
   obtain⟨g,hg⟩:=hq0;have hbo:b'=g/\o'=0:=by rw [hg] at hqe;simpa using hqe.symm
   obtain⟨rfl,rfl⟩:=hbo;rw [hg] at hoV gV ⊢;have hBg:=(zas hoV rfl).1;refine⟨i,rfl,hil,?_⟩;refine⟨i64 x.1[i],by have:=zac (hat' i (by omega)) (i:=0) (v:=i64 x.1[i]) (by rw [hgi];rfl);exact this,?_⟩;refine⟨x.1[i],rfl,hao,?_⟩;have hVw:V.heap[bw]?=w.heap[bw]?:=(gV.block bw (by omega) (by have:B<=b':=hBg;simp;omega)).trans (hbZ.block bw hlw);refine⟨i64 ws[x.1[i]],zac (zaY hVw (hatw _ hao)) (i:=0) rfl,?_⟩;refine⟨i,rfl,hil,?_⟩;refine ziz (i:=i) (v:=ws[x.1[i]]) k3 rfl hoV (by omega) fun V' oV' gV'=>?_;refine nxI (by omega) ?_;refine⟨i+1,(cvE rfl rfl),⟨hil,?_,zae gV gV'⟩,zdc (by omega)⟩;have e:(rowG ws (x.1.take i)++x.1.drop i).set i ws[x.1[i]]=rowG ws (x.1.take (i+1))++x.1.drop (i+1):=zns hil hao;rw [e] at oV';exact oV'
  ·have hc:¬ (i:Int)<(x.1.length:Int):=dF hc;obtain rfl:i=x.1.length:=by omega
   rw [List.take_length,List.drop_length,List.append_nil] at hoV;have keepI:∀ y:List Nat×Option Addr×Nat,∀ l',OwnS natE 3 B Z y.2.1 y.2.2 l'->(∀ a b,x.2.1=some a->y.2.1=some b->a.block≠b.block)->OwnS natE 3 B V y.2.1 y.2.2 l':=fun y l' hy hne=>hy.same fun b hb=>gV.block _ (zas hy hb).2.1 (by
    intro e
    cases hx1:x.2.1 with
    | none=>rw [hx1] at e;cases e
    | some a =>
     rw [hx1] at e;simp only [Option.map_some,Option.some.injEq] at e;exact hne a b hx1 hb e.symm)
   unfold AscB at hasc;rw [hsplit,List.pairwise_append,List.pairwise_cons] at hasc;obtain⟨_,⟨hA1,_⟩,hA2⟩:=hasc;refine nxI (by omega) ?_;refine⟨k+1,(cvE rfl rfl),⟨hkl,?_,fun y hy=>?_,fun y hy=>?_,?_⟩,zdc (by omega)⟩
   ·refine ho.same fun a ha=>gV.block _ (zas ho ha).2.1 fun e=>?_
    cases hx1:x.2.1 with
    | none=>rw [hx1] at e;cases e
    | some a2 =>
     rw [hx1] at e;simp only [Option.map_some,Option.some.injEq] at e;obtain⟨_,_,c1,h1⟩:=zas ho ha;obtain⟨_,_,c2,h2⟩:=zas hox hx1;rw [<- e,h1] at h2;simp at h2
   ·rw [tsg hkl,hxk] at hy;rcases List.mem_append.1 hy with hy | hy
    ·exact keepI y _ (htk y hy) fun a b ha hb e=>by
      have:=hA2 y hy x (by simp) b a hb ha;omega
    ·rw [List.mem_singleton.1 hy];exact hoV
   ·exact keepI y _ (hdr y (by rw [hdrop];exact List.mem_cons_of_mem _ hy)) fun a b ha hb e=>by
     have:=hA1 y hy a b ha hb;omega
   ·cases hx1:x.2.1 with
    | none =>
     rw [hx1] at gV;exact hbZ.trans ⟨gV.os,gV.tape,gV.output,gV.size,fun j hj=>gV.block j (by omega) (fun e=>by cases e)⟩
    | some a =>
     rw [hx1] at gV;exact hbZ.trans (zak gV hbs (by have:=(zas hox hx1).1;omega))
 ·have hc:¬ (k:Int)<(xs.length:Int):=dF hc;obtain rfl:k=xs.length:=by omega
  rw [List.take_length] at htk;refine⟨⟨xs.map fun x=>(rowG ws x.1,x.2),p,c',by rw [List.length_map];rfl,?_,?_,fun y hy=>?_⟩,hbZ⟩
  ·rw [hrk,List.map_map,List.map_map];rfl
  ·rw [<- hB];have e1:(xs.map fun x=>(rowG ws x.1,x.2)).flatMap zbt.enc=xs.flatMap zbt.enc:=by
    rw [List.flatMap_map];congr 1;funext x;show [Value.slice x.2.1 (rowG ws x.1).length x.2.2]=[Value.slice x.2.1 x.1.length x.2.2];unfold rowG;rw [List.length_map]
   unfold OwnS at ho ⊢;rw [e1,List.length_map];exact ho
  ·obtain⟨x,hx,rfl⟩:=List.mem_map.1 hy;rw [<- hB];exact htk x hx
end
def exC (x:ExD) (q:Option Addr) (c:Nat):List Value := .slice q x.ev.length c::(relC x.po++(relC x.rf++(relC x.co++(relC x.dt++(relC x.ct++(relC x.rm++(seg 32 (fun i=>u8 (x.regs i))++seg 6 (fun i=>u8 (x.mem i)))))))))
theorem zaC (x:ExD) (q:Option Addr) (c:Nat):(exC x q c).length=333:=by
 unfold exC;simp only [List.length_cons,lap,zad,zat]
theorem zde (x:ExD) (q:Option Addr) (c:Nat):(exC x q c).all Value.oneCell'=true:=by
 unfold exC;rw [List.all_cons,List.all_append,List.all_append,List.all_append,List.all_append,List.all_append,List.all_append,List.all_append,zau,zau,zau,zau,zau,zau,zcP fun _=>rfl,zcP fun _=>rfl];rfl
section
variable (x:ExD) (q:Option Addr) (c:Nat) (S:List Value)
theorem zn3:∃ A Z,A.length=1/\∀ r,exC { x with po:=r } q c++S=A++(relC r++Z) :=
 ⟨.slice q x.ev.length c::[],(relC x.rf++(relC x.co++(relC x.dt++(relC x.ct++(relC x.rm++(seg 32 (fun i=>u8 (x.regs i))++(seg 6 (fun i=>u8 (x.mem i))++S))))))),by simp only [List.length_cons,List.length_nil,lap,zad],fun r=>by simp only [exC,List.append_assoc,List.cons_append,List.nil_append]⟩
theorem zra:∃ A Z,A.length=50/\∀ r,exC { x with rf:=r } q c++S=A++(relC r++Z) :=
 ⟨.slice q x.ev.length c::relC x.po,(relC x.co++(relC x.dt++(relC x.ct++(relC x.rm++(seg 32 (fun i=>u8 (x.regs i))++(seg 6 (fun i=>u8 (x.mem i))++S)))))),by simp only [List.length_cons,List.length_nil,lap,zad],fun r=>by simp only [exC,List.append_assoc,List.cons_append,List.nil_append]⟩
theorem zrd:∃ A Z,A.length=99/\∀ r,exC { x with co:=r } q c++S=A++(relC r++Z) :=
 ⟨.slice q x.ev.length c::(relC x.po++relC x.rf),(relC x.dt++(relC x.ct++(relC x.rm++(seg 32 (fun i=>u8 (x.regs i))++(seg 6 (fun i=>u8 (x.mem i))++S))))),by simp only [List.length_cons,List.length_nil,lap,zad],fun r=>by simp only [exC,List.append_assoc,List.cons_append,List.nil_append]⟩
theorem zn4:∃ A Z,A.length=148/\∀ r,exC { x with dt:=r } q c++S=A++(relC r++Z) :=
 ⟨.slice q x.ev.length c::(relC x.po++(relC x.rf++relC x.co)),(relC x.ct++(relC x.rm++(seg 32 (fun i=>u8 (x.regs i))++(seg 6 (fun i=>u8 (x.mem i))++S)))),by simp only [List.length_cons,List.length_nil,lap,zad],fun r=>by simp only [exC,List.append_assoc,List.cons_append,List.nil_append]⟩
theorem zn5:∃ A Z,A.length=197/\∀ r,exC { x with ct:=r } q c++S=A++(relC r++Z) :=
 ⟨.slice q x.ev.length c::(relC x.po++(relC x.rf++(relC x.co++relC x.dt))),(relC x.rm++(seg 32 (fun i=>u8 (x.regs i))++(seg 6 (fun i=>u8 (x.mem i))++S))),by simp only [List.length_cons,List.length_nil,lap,zad],fun r=>by simp only [exC,List.append_assoc,List.cons_append,List.nil_append]⟩
theorem zn2:∃ A Z,A.length=246/\∀ r,exC { x with rm:=r } q c++S=A++(relC r++Z) :=
 ⟨.slice q x.ev.length c::(relC x.po++(relC x.rf++(relC x.co++(relC x.dt++relC x.ct)))),(seg 32 (fun i=>u8 (x.regs i))++(seg 6 (fun i=>u8 (x.mem i))++S)),by simp only [List.length_cons,List.length_nil,lap,zad],fun r=>by simp only [exC,List.append_assoc,List.cons_append,List.nil_append]⟩
theorem zpP:∃ A Z,A.length=295/\∀ f,exC { x with regs:=f } q c++S=A++(seg 32 (fun i=>u8 (f i))++Z) :=
 ⟨.slice q x.ev.length c::(relC x.po++(relC x.rf++(relC x.co++(relC x.dt++(relC x.ct++relC x.rm))))),(seg 6 (fun i=>u8 (x.mem i))++S),by simp only [List.length_cons,lap,zad],fun f=>by simp only [exC,List.append_assoc,List.cons_append,List.nil_append]⟩
theorem zoJ:∃ A Z,A.length=327/\∀ f,exC { x with mem:=f } q c++S=A++(seg 6 (fun i=>u8 (f i))++Z) :=
 ⟨.slice q x.ev.length c::(relC x.po++(relC x.rf++(relC x.co++(relC x.dt++(relC x.ct++(relC x.rm++seg 32 (fun i=>u8 (x.regs i)))))))),S,by simp only [List.length_cons,lap,zad,zat],fun f=>by simp only [exC,List.append_assoc,List.cons_append,List.nil_append]⟩
theorem zrc (l:List Ev) (q':Option Addr) (c':Nat):(exC x q c++S).set 0 (.slice q' l.length c')=exC { x with ev:=l } q' c'++S:=by
 unfold exC;rw [List.cons_append,List.set_cons_zero,List.cons_append]
theorem zrb:(exC x q c++S)[0]?=some (.slice q x.ev.length c):=rfl
end
theorem zg0 {x:ExD} {q:Option Addr} {c:Nat} {S:List Value} {i:Nat} {v:Value} (h:S[i]?=some v):(exC x q c++S)[333+i]?=some v:=by
 rw [zbf (zaC _ _ _)];exact h
theorem ziG {x:ExD} {q:Option Addr} {c:Nat} {S:List Value} {i:Nat} {v:Value}:(exC x q c++S).set (333+i) v=exC x q c++S.set i v:=zbA (zaC _ _ _)
abbrev NatL:=List Nat×Option Addr×Nat
abbrev slV (x:NatL):Value := .slice x.2.1 x.1.length x.2.2
def rowL (l:List NatL):List Value:=l.map slV
theorem zfC:∀ l:List NatL,l.flatMap zbt.enc=rowL l
 | []=>rfl
 | a::l=>by
  show slV a::l.flatMap zbt.enc=slV a::rowL l;rw [zfC l]
abbrev RowLH (Z:World) (g:Nat) (l:List NatL):Prop:=Z.heap[g]?=some (.cells (rowL l).toArray 150 (0,0))
theorem RowLH.sl {Z:World} {g:Nat} {l:List NatL} (h:RowLH Z g l):SlR zbt Z (some ⟨g,0,none⟩) l :=
 SlR.of_cells (hlt h) (by rw [zfC];exact zaa h)
theorem RowLH.own {Z:World} {g B:Nat} {l:List NatL} (h:RowLH Z g l) (hB:B<=g) (hm:l.length<=maxLen):OwnS zbt 150 B Z (some ⟨g,0,none⟩) l.length l:=by
 unfold OwnS World.ownsRow;have hz:(rowL l).length=l.length:=by unfold rowL;rw [List.length_map]
 refine⟨by rw [zaG],.inr ⟨g,l.length,(rowL l).toArray,rfl,hB,h,Nat.le_refl _,hm,?_,?_⟩⟩
 ·show (rowL l).length=l.length*1;rw [hz,Nat.mul_one]
 ·show (rowL l).take (l.length*1)=_;rw [zfC,List.take_of_length_le (by rw [hz,Nat.mul_one];exact Nat.le_refl _)]
structure Rows (B:Nat) (Z:World) (W:List NatL):Prop where
 own:∀ x∈W,OwnS natE 3 B Z x.2.1 x.2.2 x.1
 dis:∀ (i j:Nat) (x y:NatL),W[i]?=some x->W[j]?=some y->i≠j->∀ a b,x.2.1=some a->y.2.1=some b->a.block≠b.block
theorem Rows.same {B:Nat} {Z Y:World} {W:List NatL} (h:Rows B Z W) (hs:∀ x∈W,∀ a,x.2.1=some a->Y.heap[a.block]?=Z.heap[a.block]?):Rows B Y W :=
 ⟨fun x hx=>(h.own x hx).same (hs x hx),h.dis⟩
theorem Rows.nils (B:Nat) (Z:World) (n:Nat):Rows B Z (List.replicate n ([],none,0)):=by
 refine⟨fun x hx=>?_,fun i j x y hx hy _ a b ha _=>?_⟩
 ·rw [List.eq_of_mem_replicate hx];exact OwnS.nil
 ·have:=List.mem_of_getElem? hx;rw [List.eq_of_mem_replicate this] at ha
  cases ha
theorem Rows.set {B:Nat} {Z Y:World} {W:List NatL} {i:Nat} {x y:NatL} (h:Rows B Z W) (hi:W[i]?=some x) (ho:OwnS natE 3 B Y y.2.1 y.2.2 y.1) (hg:Z.grownBy Y (x.2.1.map Addr.block)) (hat:∀ a,y.2.1=some a->x.2.1=some a\/Z.heap.size<=a.block):Rows B Y (W.set i y):=by
 obtain⟨hil,hxi⟩:=List.getElem?_eq_some_iff.1 hi;have ne:∀ (j:Nat) (z:NatL),W[j]?=some z->i≠j->∀ b,z.2.1=some b->Y.heap[b.block]?=Z.heap[b.block]?:=fun j z hj hne b hb=>by
  refine hg.block _ (zas (h.own z (List.mem_of_getElem? hj)) hb).2.1 fun e=>?_
  cases hx1:x.2.1 with
  | none=>rw [hx1] at e;cases e
  | some a =>
   rw [hx1] at e;simp only [Option.map_some,Option.some.injEq] at e;exact h.dis i j x z hi hj hne a b hx1 hb e.symm
 have inv:∀ (j:Nat) (z:NatL),(W.set i y)[j]?=some z->(i=j/\z=y)\/(i≠j/\W[j]?=some z):=fun j z hj=>by
  by_cases e:i=j
  ·subst e;rw [List.getElem?_set_self hil] at hj;exact .inl ⟨rfl,(Option.some.inj hj).symm⟩
  ·rw [List.getElem?_set_ne e] at hj;exact .inr ⟨e,hj⟩
 refine⟨fun z hz=>?_,fun j k u v hu hv hjk a b ha hb=>?_⟩
 ·obtain⟨j,hj⟩:=List.mem_iff_getElem?.1 hz;rcases inv j z hj with ⟨_,rfl⟩ | ⟨hne,hj⟩
  ·exact ho
  ·exact (h.own z (List.mem_of_getElem? hj)).same (ne j z hj hne)
 ·rcases inv j u hu with ⟨e1,rfl⟩ | ⟨n1,hu'⟩ <;> rcases inv k v hv with ⟨e2,rfl⟩ | ⟨n2,hv'⟩
  ·omega
  ·rcases hat a ha with h1 | h1
   ·exact h.dis i k x v hi hv' n2 a b h1 hb
   ·have:=(zas (h.own v (List.mem_of_getElem? hv')) hb).2.1;omega
  ·rcases hat b hb with h1 | h1
   ·exact h.dis j i u x hu' hi (fun e=>n1 e.symm) a b ha h1
   ·have:=(zas (h.own u (List.mem_of_getElem? hu')) ha).2.1;omega
  ·exact h.dis j k u v hu' hv' hjk a b ha hb
end Go.Proofs.YtlkofpbdpplfkaaGreatDoor
namespace Go.Vc
open Go.RowKit
def DrawA (S:Sig) (ops:Array Oper) (E:Env) (w:World) (K:Env->World->Prop) (QP:List PanicEntry->World->Prop):Prop :=
 ∃ (X:List Nat) (T:OT),(covA (zec S.τ X ops) ops ops.size (Array.replicate ops.size false) T&&ops.all (fun o=>zbS o.op))=true/\opsT S ops.toList X QP T E w.drew K
inductive Mn where
 | m (m:Mk)
 | s (a b:Mn)
 | c (a b:Mn)
 | d (a b:Mn)
 | t
section
variable {S:Sig}
def zmz (rec_:Array Bool->OT->Bool) (ind:Nat->Nat->Bool) (ops:Array Oper) (listed:Array Bool) (T:OT):Bool :=
 !(Region.ready .any ops listed).isEmpty&&(Region.ready .any ops listed).all fun i =>
   (OT.firsts ind i T).any fun T'=>rec_ (listed.setIfInBounds i true) T'
def covR (ind:Nat->Nat->Bool) (ops:Array Oper):Nat->Array Bool->OT->Bool
 | 0,listed,T=>(Region.ready .any ops listed).isEmpty&&(match T with | .nil=>true | _=>false)
 | m+1,listed,.op k T'=>(match (Region.ready .any ops listed).contains k&&zhc ind ops k listed with
  | true=>covR ind ops m (listed.setIfInBounds k true) T'
  | false=>zmz (covR ind ops m) ind ops listed (.op k T'))
 | m+1,listed,.nil=>zmz (covR ind ops m) ind ops listed .nil
 | m+1,listed,.alt x y=>zmz (covR ind ops m) ind ops listed (.alt x y)
section
variable {ind:Nat->Nat->Bool} {ops:Array Oper}
theorem zcj {rec_:Array Bool->OT->Bool} {L:Array Bool} {T:OT} (h:zmz rec_ ind ops L T=true):(Region.ready .any ops L).isEmpty=false/\∀ i∈Region.ready .any ops L,∃ T',T'∈OT.firsts ind i T/\rec_ (L.setIfInBounds i true) T'=true:=by
 simp only [zmz,bAT,Bool.not_eq_true',List.all_eq_true,List.any_eq_true] at h;exact⟨h.1,fun i hi=>h.2 i hi⟩
theorem zmx:∀ (m:Nat) (L:Array Bool) (T:OT),zf6 ops L->covR ind ops (m+1) L T=true ->
  (Region.ready .any ops L).isEmpty=false/\∀ i∈Region.ready .any ops L,∃ T',T'∈OT.firsts ind i T/\covR ind ops m (L.setIfInBounds i true) T'=true:=by
 intro m
 induction m with
 | zero =>
  intro L T hc h
  cases T with
  | nil=>exact zcj h
  | alt x y=>exact zcj h
  | op k T' =>
   simp only [covR] at h
   split at h
   ·rename_i hf;simp only [bAT,List.contains_eq_mem,dE] at hf;refine⟨List.isEmpty_eq_false_iff.2 (List.ne_nil_of_mem hf.1),fun i hi=>?_⟩;by_cases e:i=k
    ·subst e;exact⟨T',by simp [OT.firsts],h⟩
    ·have:=zcg hi e;simp only [bAT,List.isEmpty_iff] at h;rw [h.1] at this;cases this
   ·exact zcj h
 | succ m ih =>
  intro L T hc h
  cases T with
  | nil=>exact zcj h
  | alt x y=>exact zcj h
  | op k T' =>
   unfold covR at h
   split at h
   ·rename_i hf;simp only [bAT,List.contains_eq_mem,dE] at hf;refine⟨List.isEmpty_eq_false_iff.2 (List.ne_nil_of_mem hf.1),fun i hi=>?_⟩;by_cases e:i=k
    ·subst e;exact⟨T',by simp [OT.firsts],h⟩
    ·obtain⟨T'',h1,h2⟩:=(ih _ T' (zds hc hf.1) h).2 i (zcg hi e);refine⟨.op k T'',?_,?_⟩
     ·have:¬ k=i:=fun e2=>e e2.symm;rw [OT.firsts,if_neg this,if_pos (zjJ hc hf.2 hf.1 hi e)];exact List.mem_map_of_mem h1
     ·have hk2:k∈Region.ready .any ops (L.setIfInBounds i true):=zcg hf.1 (fun e2=>e e2.symm);have hb:((Region.ready .any ops (L.setIfInBounds i true)).contains k&&zhc ind ops k (L.setIfInBounds i true))=true:=by
       simp only [bAT,List.contains_eq_mem,dE];exact⟨hk2,zgy hf.2⟩
      unfold covR;rw [hb];rw [zjm];exact h2
   ·exact zcj h
theorem zfW:∀ (m:Nat) (L:Array Bool) (T:OT),zf6 ops L->covR ind ops m L T=true->covA ind ops m L T=true
 | 0,L,T,_,h=>h
 | m+1,L,T,hc,h=>by
  obtain⟨h1,h2⟩:=zmx m L T hc h;simp only [covA,bAT,Bool.not_eq_true',List.all_eq_true,List.any_eq_true];refine⟨h1,fun i hi=>?_⟩;obtain⟨T',h3,h4⟩:=h2 i hi;exact⟨T',h3,zfW m _ T' (zds hc hi) h4⟩
end
theorem DrawA.treeR {S:Sig} {ops:Array Oper} {E:Env} {w:World} {K:Env->World->Prop} {QP:List PanicEntry->World->Prop} (X:List Nat) (T:OT)
  (h:(covR (zec S.τ X ops) ops ops.size (Array.replicate ops.size false) T&&ops.all (fun o=>zbS o.op))=true) (k:opsT S ops.toList X QP T E w.drew K):DrawA S ops E w K QP :=
 ⟨X,T,by
  simp only [bAT] at h ⊢;refine⟨zfW _ _ _ (fun j o hj=>?_) h.1,h.2⟩;by_cases hl:j<ops.size <;> simp [hl] at hj,k⟩
theorem DrawE.treeR {S:Sig} {ops:Array Oper} {E:Env} {w:World} {K:Env->World->Prop} {QP:List PanicEntry->World->Prop} (X:List Nat) (T:OT)
  (h:(covR (zec S.τ X ops) ops ops.size (Array.replicate ops.size false) T&&ops.all (fun o=>zbS o.op))=true) (k:opsT S ops.toList X QP T E w.drew K):DrawE S ops E w K QP :=
 .inr (.inr ⟨X,T,by
  simp only [bAT] at h ⊢;refine⟨zfW _ _ _ (fun j o hj=>?_) h.1,h.2⟩;by_cases hl:j<ops.size <;> simp [hl] at hj,k⟩)
end
end Go.Vc
namespace Go.Proofs.YtlkofpbdpplfkaaGreatDoor
open Go.Vc Go.RowKit Go.Sei
abbrev MixH (X:World) (b:Nat) (x:ExD) (q:Option Addr) (c:Nat) (S:List Value):Prop:=X.heap[b]?=some (.cells (exC x q c++S).toArray 153 (0,0))
abbrev nilV:Value := .slice none 0 0
theorem zdR {X:World} {b:Nat} {x:ExD} {q:Option Addr} {c:Nat} {S:List Value} (h:MixH X b x q c S):X.cell? ⟨b,0+0,none⟩=some (.slice q x.ev.length c):=zac (zaa h) (zrb x q c S)
theorem zbT {X:World} {b:Nat} {x:ExD} {q:Option Addr} {c:Nat} {S:List Value} (h:MixH X b x q c S) {i:Nat} {v:Value} (hi:S[i]?=some v):X.cell? ⟨b,333+i,none⟩=some v:=by
 have:=zac (zaa h) (zg0 (x:=x) (q:=q) (c:=c) hi);rw [Nat.zero_add] at this;exact this
theorem zpX {w Z:World} {q:Option Addr} {ev:List Ev} {b:Nat} (hl:SlR evE w q ev) (hqb:∀ a,q=some a->a.block≠b) (g:w.grownBy Z (some b)):SlR evE Z q ev:=by
 rcases hl with h | ⟨b',o,h1,h2,h3⟩
 ·exact .inl h
 ·have:=hqb _ h1;exact .inr ⟨b',o,h1,nL h2 g.size,fun i hi=>zaY (g.block b' h2 (by simpa using this)) (h3 i hi)⟩
theorem zb9 (p:Option Addr) (n c:Nat):(Value.slice p n c).ownBlock=p.map Addr.block:=by cases p <;> rfl
theorem zhJ {α:Type} {E:Enc α} {T B cap:Nat} {w:World} {p:Option Addr} {l:List α} (h:OwnS E T B w p cap l) {k T':Nat} {cur:Array Value} {fr:Nat×Nat} (hk:w.heap[k]?=some (.cells cur T' fr)) (hT:T'≠T):some k≠p.map Addr.block:=fun e=>by
 cases hp:p with
 | none=>rw [hp] at e;cases e
 | some a =>
  rw [hp] at e;simp only [Option.map_some,Option.some.injEq] at e;obtain⟨_,_,cur',h'⟩:=zas h hp;rw [<- e,hk] at h';simp at h';exact hT h'.2.1
theorem SatR.mono {α:Type} {r:Result α} {K K':α->World->Prop} (h:SatR r K) (k:∀ v w,K v w->K' v w):SatR r K':=by
 obtain⟨v,w',e,h⟩:=h;exact⟨v,w',e,k v w' h⟩
section
variable {α β:Type} {E:Enc α} {E':Enc β} {T T' B B' c c':Nat} {A C:World} {p q:Option Addr} {l:List α} {l':List β}
theorem zd7 (h:OwnS E T B A q c l) (g:A.grownBy C (p.map Addr.block)) (hne:∀ a b',p=some a->q=some b'->a.block≠b'.block):OwnS E T B C q c l :=
 h.same fun b' hb'=>g.block _ (zas h hb').2.1 fun e=>by
  cases hp:p with
  | none=>rw [hp] at e;cases e
  | some a =>
   rw [hp] at e;simp only [Option.map_some,Option.some.injEq] at e;exact hne a b' hp hb' e.symm
theorem zbF (h:OwnS E T B A q c l) (hp:OwnS E' T' B' A p c' l') (hT:T≠T') (g:A.grownBy C (p.map Addr.block)):OwnS E T B C q c l :=
 zd7 h g fun a b' ha hb e=>by
  obtain⟨_,_,c1,h1⟩:=zas h hb;obtain⟨_,_,c2,h2⟩:=zas hp ha;rw [e,h1] at h2;simp at h2;exact hT h2.2
theorem zaQ {b:Nat} {cur:Array Value} {fr:Nat×Nat} (h:OwnS E T B A q c l) (hb:A.heap[b]?=some (.cells cur T' fr)) (hT:T≠T') (g:A.grownBy C (some b)):OwnS E T B C q c l :=
 h.same fun b' hb'=>g.block _ (zas h hb').2.1 fun e=>by
  obtain⟨_,_,c1,h1⟩:=zas h hb';simp only [Option.some.injEq] at e;rw [e,hb] at h1;simp at h1;exact hT h1.2.1.symm
theorem zaM {b:Nat} {cur:Array Value} {fr:Nat×Nat} (hb:A.heap[b]?=some (.cells cur T' fr)) (h:OwnS E T B A q c l) (hT:T'≠T) (g:A.grownBy C (q.map Addr.block)):C.heap[b]?=some (.cells cur T' fr) :=
 (g.block b (hlt hb) (zhJ h hb hT)).trans hb
theorem zaX {n:Nat} (hp:OwnS E T B A p c l) (hn:n<=A.heap.size) (hB:n<=B) (g:A.grownBy C (p.map Addr.block)):Below n A C:=by
 refine⟨g.os,g.tape,g.output,g.size,fun j hj=>g.block j (by omega) fun e=>?_⟩
 cases h:p with
 | none=>rw [h] at e;cases e
 | some a =>
  rw [h] at e;simp only [Option.map_some,Option.some.injEq] at e;have:=(zas hp h).1;omega
end
theorem appI {B c k:Nat} {V1:World} {p:Option Addr} {l:List Nat} {a:Addr} (ho:OwnS natE 3 B V1 p c l) (ha:zax V1 a ([k].flatMap natE.enc)) (hB:B<=V1.heap.size) (hl:l.length<=100000) {K:Value->World->Prop}
  (h:∀ p' c' w',OwnS natE 3 B w' p' c' (l++[k])->V1.grownBy w' (Value.slice p l.length c).ownBlock->(∀ a,p'=some a->p=some a\/a.block=V1.heap.size)->K (.slice p' (l++[k]).length c') w') :
  SatR ((Builtin.append_ #[150,150] 150 #[.slice p l.length c,.slice (some a) 1 1]).run Tryz.prog V1) K :=
 zbi (E:=natE) (T:=3) (B:=B) (l:=l) (news:=[k]) (cap:=c) (m:=1) Tryz.underlying150 k3 rfl rfl rfl ho rfl ha hB (by omega) (by show (l.length+1)*8<=_;omega) fun p' c' w' a1 a2 _ a4=>h p' c' w' a1 a2 a4
theorem appL {B c:Nat} {V1:World} {p:Option Addr} {l:List NatL} {y:NatL} {a:Addr} (ho:OwnS zbt 150 B V1 p c l) (ha:zax V1 a ([y].flatMap zbt.enc)) (hB:B<=V1.heap.size) (hl:l.length<=100000) {K:Value->World->Prop}
  (h:∀ p' c' w',OwnS zbt 150 B w' p' c' (l++[y])->V1.grownBy w' (Value.slice p l.length c).ownBlock->(∀ a,p'=some a->p=some a\/a.block=V1.heap.size)->K (.slice p' (l++[y]).length c') w') :
  SatR ((Builtin.append_ #[151,151] 151 #[.slice p l.length c,.slice (some a) 1 1]).run Tryz.prog V1) K :=
 zbi (E:=zbt) (T:=150) (B:=B) (l:=l) (news:=[y]) (cap:=c) (m:=1) Tryz.underlying151 k150 rfl rfl rfl ho rfl ha hB (by omega) (by show (l.length+1)*24<=_;omega) fun p' c' w' a1 a2 _ a4=>h p' c' w' a1 a2 a4
section
variable {b:Nat} {x:ExD} {q:Option Addr} {c locs:Nat} {w:World}
theorem zmH (hm:MixH w b x q c [nilV,nilV,nilV]) (hl:SlR evE w q x.ev) (hqb:∀ a,q=some a->a.block≠b) (hn:x.ev.length<=48) (hlo:locs<=100) (hv:∀ e∈x.ev,e.k=1\/e.k=2->e.l.toNat<locs) :
  Calls Tryz.prog 209 #[At0 b,i64 locs] w fun e w'=>e = .returned (.tuple #[])/\(∃ (p1 p2 p3:Option Addr) (c1 c2 c3:Nat) (xs ys:List NatL),
   MixH w' b x q c [.slice p1 (zbV x locs).rs.length c1,.slice p2 xs.length c2,.slice p3 ys.length c3]/\OwnS natE 3 w.heap.size w' p1 c1 ((zbV x locs).rs.map (·.1))/\xs.map (·.1)=(zbV x locs).rs.map (·.2)/\OwnS zbt 150 w.heap.size w' p2 c2 xs/\(∀ y∈xs,OwnS natE 3 w.heap.size w' y.2.1 y.2.2 y.1) /\
   ys.map (·.1)=(zbV x locs).wr/\OwnS zbt 150 w.heap.size w' p3 c3 ys/\∀ y∈ys,OwnS natE 3 w.heap.size w' y.2.1 y.2.2 y.1)/\w.grownBy w' (some b):=by
 refine cofM 114 [At0 b,i64 locs] (.c .p (.c .p .p)) Tryz.func209 ?_;obtain⟨B,hB⟩:=nm (w.heap.size);have hbw:=hlt hm;obtain⟨W0,hW0⟩:∃ W0:List NatL,W0=List.replicate locs ([],none,0):=⟨_,rfl⟩;have hW0l:W0.length=locs:=by rw [hW0,List.length_replicate]
 refine⟨Unit,fun _=>⟨[(0,At0 b)],[]⟩,fun _ X=>MixH X b x q c [nilV,nilV,.slice (some ⟨B,0,none⟩) locs locs]/\RowLH X B W0/\w.grownBy X (some b)/\B<X.heap.size,?_,?_⟩
 ·refine zhQ Tryz.underlying151 k150 rfl rfl (by decide) locs (by show 24*_<=_;omega) (by omega) fun X fX hbX sX=>?_;have ez:∀ n,zrep [Value.slice none 0 0] n=rowL (List.replicate n ([],none,0)):=fun n=>by
   induction n with
   | zero=>rfl
   | succ n ih =>
    show Value.slice none 0 0::zrep [Value.slice none 0 0] n=slV ([],none,0)::rowL (List.replicate n ([],none,0));rw [<- ih];rfl
  have fX:X.heap[w.heap.size]?=some (.cells (zrep [Value.slice none 0 0] locs).toArray 150 (0,0)):=fX;rw [ez,<- hW0,<- hB] at fX;have hmX:=(hbX.block b hbw).trans hm;refine zal k151 hmX (o:=0+335) (v := .slice (some ⟨w.heap.size,0,none⟩) locs locs) rfl rfl (by rw [lap,zaC];decide) rfl fun Y fY gY sY=>?_;rw [show 0+335=333+2 from rfl,ziG] at fY;exact⟨(),(cvE rfl rfl),by rw [hB];exact fY,(gY.block B (hlt fX) (by simp;omega)).trans fX,zae (zah hbX) gY,by rw [sY,sX,hB];omega⟩
 rintro _ X ⟨hmX,fX,gX,sX⟩;refine⟨List NatL,fun W=>⟨[(0,At0 b)],[]⟩,fun W Z=>MixH Z b x q c [nilV,nilV,.slice (some ⟨B,0,none⟩) locs locs]/\RowLH Z B W/\w.grownBy Z (some b)/\W.length=locs/\W.map (·.1)=(zbV x locs).wr/\Rows B Z W/\∀ y∈W,y.1.length<=48/\∀ a∈y.1,a<x.ev.length,?_,?_⟩
 ·refine⟨_,zdR hmX,?_⟩;refine⟨Nat×List NatL,fun s=>⟨[(0,At0 b),(20,.slice q x.ev.length c),(21,i64 x.ev.length),(22,i64 (s.1:Nat))],[]⟩,
   fun s Z=>s.1<=x.ev.length/\MixH Z b x q c [nilV,nilV,.slice (some ⟨B,0,none⟩) locs locs]/\RowLH Z B s.2/\w.grownBy Z (some b)/\s.2.length=locs/\wrsG s.1 (x.ev.drop s.1) (s.2.map (·.1))=(zbV x locs).wr/\Rows B Z s.2/\(∀ y∈s.2,y.1.length<=s.1/\∀ a∈y.1,a<x.ev.length),fun s=>x.ev.length-s.1,(0,W0),
   (cvE rfl rfl),⟨Nat.zero_le _,hmX,fX,gX,hW0l,by rw [hW0,List.map_replicate];rfl,by rw [hW0];exact Rows.nils _ _ _,fun y hy=>by rw [hW0] at hy;rw [List.eq_of_mem_replicate hy];exact⟨Nat.zero_le _,fun a ha=>by cases ha⟩⟩,?_⟩
  clear hmX fX gX sX;rintro⟨k,W⟩ Z ⟨hk,hmZ,fZ,gZ,hWl,hacc,hR,hL⟩;dsimp only at hk fZ hWl hacc hR hL ⊢;refine biE (fun hc=>?_) fun hc=>?_
  ·have hc:(k:Int)<(x.ev.length:Int):=dT hc;have hkl:k<x.ev.length:=by omega
   obtain⟨e,he⟩:∃ e,x.ev[k]=e:=⟨_,rfl⟩;have hem:e∈x.ev:=by rw [<- he];exact gM hkl
   rw [<- List.getElem_cons_drop hkl,he] at hacc;have hacc:wrsG (k+1) (x.ev.drop (k+1)) (if e.k=2 then (W.map (·.1)).set e.l.toNat ((W.map (·.1)).getD e.l.toNat []++[k]) else W.map (·.1))=(zbV x locs).wr:=hacc;have hlZ:=zpX hl hqb gZ;obtain⟨bp,op,hqe,hlp,hat⟩:=hlZ.at hkl;subst hqe;refine⟨k,rfl,hkl,?_⟩;refine⟨evE.enc e,rfl,by rw [<- he];exact hat k hkl,hlp,?_⟩;refine zap (X:=Z) (v := .agg (evE.enc e).toArray) k225 rfl rfl (List.all_eq_true.2 fun u hu=>evE.one e u hu) fun Y hbY fY sY=>?_;have gY:=zae gZ (zah (row:=some b) hbY);have hmY:=zab hbY hmZ;have fBY:=zab hbY fZ;have hRY:Rows B Y W:=hR.same fun y hy a ha=>hbY.block _ (zas (hR.own y hy) ha).2.1;have fY:Y.heap[Z.heap.size]?=some (.cells (evE.enc e).toArray 225 (0,0)):=fY;refine⟨u8 e.k,zac (zaa fY) (i:=1) rfl,?_⟩;refine biE (fun h=>?_) fun h=>?_
   ·have h:e.k=2:=zbe.1 (dT h);rw [if_pos h] at hacc;have hll:=hv e hem (.inr h);obtain⟨l,hle⟩:∃ l,e.l.toNat=l:=⟨_,rfl⟩;rw [hle] at hacc hll;have hlW:l<W.length:=(by omega);obtain⟨y,hy⟩:∃ y,W[l]?=some y:=⟨_,gE hlW⟩;have hym:y∈W:=List.mem_of_getElem? hy;have hgd:(W.map (·.1)).getD l []=y.1:=(by rw [gDe,List.getElem?_map,hy];rfl);rw [hgd] at hacc;have hyo:=hRY.own y hym;have hylen:=(hL y hym).1;have hrl:(rowL W)[l]?=some (slV y):=(by unfold rowL;rw [List.getElem?_map,hy];rfl);have hd:Bw Y Y.drew:=(Below.refl _ Y).drew;have hba:Below Y.drew.heap.size Y.drew (Y.drew.alloc (.cells (natE.enc k).toArray 3)):=zba _ _;have sa:(Y.drew.alloc (.cells (natE.enc k).toArray 3)).heap.size=Y.heap.size+1:=wz _ _;have nB:=zhJ hyo fBY (by decide);have nb:=zhJ hyo hmY (by decide);have fin:∀ p2 c2 V,OwnS natE 3 B V p2 c2 (y.1++[k])->(Y.drew.alloc (.cells (natE.enc k).toArray 3)).grownBy V (Value.slice y.2.1 y.1.length y.2.2).ownBlock->(∀ a,p2=some a->y.2.1=some a\/a.block=(Y.drew.alloc (.cells (natE.enc k).toArray 3)).heap.size) ->
      (MixH V b x (some ⟨bp,op,none⟩) c [nilV,nilV,.slice (some ⟨B,0,none⟩) locs locs]/\V.heap[Z.heap.size]?=some (.cells (evE.enc e).toArray 225 (0,0))) /\
      SatR ((storeVar 150 ⟨B,0+l*1,none⟩ (slV (y.1++[k],p2,c2))).run Tryz.prog V) fun _ S=>MixH S b x (some ⟨bp,op,none⟩) c [nilV,nilV,.slice (some ⟨B,0,none⟩) locs locs]/\RowLH S B (W.set l (y.1++[k],p2,c2))/\w.grownBy S (some b)/\(W.set l (y.1++[k],p2,c2)).length=locs/\wrsG (k+1) (x.ev.drop (k+1)) ((W.set l (y.1++[k],p2,c2)).map (·.1))=(zbV x locs).wr/\Rows B S (W.set l (y.1++[k],p2,c2))/\∀ z∈W.set l (y.1++[k],p2,c2),z.1.length<=k+1/\∀ a∈z.1,a<x.ev.length:=by
     intro p2 c2 V oV gV hat2;obtain⟨U,hU⟩:=nm (Y.drew.alloc (.cells (natE.enc k).toArray 3));rw [<- hU] at gV hba sa hat2;have hbYU:Bw Y U:=hd.trans hba;rw [zb9] at gV;have gYV:Y.grownBy V (y.2.1.map Addr.block):=zae (zah hbYU) gV;have fBV:RowLH V B W:=(gYV.block B (hlt fBY) nB).trans fBY;have hmV:=(gYV.block b (hlt hmY) nb).trans hmY;have nE:=zhJ hyo fY (by decide);refine⟨⟨hmV,(gYV.block _ (hlt fY) nE).trans fY⟩,?_⟩;refine zal k150 fBV (o:=0+l*1) (v:=slV (y.1++[k],p2,c2)) rfl rfl (by unfold rowL;rw [List.length_map];omega) rfl fun S fS gS sS=>?_;have fS2:RowLH S B (W.set l (y.1++[k],p2,c2)):=by
      rw [Nat.mul_one,Nat.zero_add] at fS;refine fS.trans ?_;unfold rowL;rw [List.map_set]
     have hRV:Rows B V (W.set l (y.1++[k],p2,c2)):=hRY.set (y:=(y.1++[k],p2,c2)) hy oV gYV fun a ha=>(hat2 a ha).imp id fun h=>by omega
     have hRS:Rows B S (W.set l (y.1++[k],p2,c2)):=hRV.same fun z hz a ha=>gS.block _ (zas (hRV.own z hz) ha).2.1 fun e=>by
      have h1:=zhJ (hRV.own z hz) fBV (by decide);rw [ha] at h1;exact h1 e.symm
     have gyb:w.grownBy S (some b):=by
      have hBb:B≠b:=(by omega);have e1:Below B Y S:=by
       refine Below.trans ⟨gYV.os,gYV.tape,gYV.output,gYV.size,fun j hj=>gYV.block j (by have:=hlt fBY;omega) fun e=>?_⟩ (zak gS (by have:=hlt fBV;omega) (Nat.le_refl _))
       cases hp:y.2.1 with
       | none=>rw [hp] at e;cases e
       | some a =>
        rw [hp] at e;simp only [Option.map_some,Option.some.injEq] at e;have:=(zas hyo hp).1;omega
      rw [hB] at e1;exact za6 gY e1
     refine⟨(gS.block b (hlt hmV) (by simp;omega)).trans hmV,fS2,gyb,by rw [List.length_set];exact hWl,?_,hRS,fun z hz=>?_⟩
     ·rw [List.map_set];exact hacc
     ·rcases List.mem_or_eq_of_mem_set hz with h | h
      ·exact⟨by have:=(hL z h).1;omega,(hL z h).2⟩
      ·rw [h];refine⟨by simp only [lap,List.length_cons,List.length_nil];omega,fun a ha=>?_⟩;rcases List.mem_append.1 ha with ha | ha
       ·exact (hL y hym).2 a ha
       ·rw [List.mem_singleton.1 ha];exact hkl
    refine DrawE.treeR [16,18] (.op 0 (.op 1 (.op 2 (.op 4 (.op 6 (.op 7 (.op 8 (.op 9 (.op 10 (.op 11 (.op 12 (.op 13 (.op 14 (.alt (.op 15 (.alt (.op 16 (.alt (.op 3 (.op 5 (.op 17 (.op 18 (.nil))))) (.op 5 (.op 3 (.op 17 (.op 18 (.nil))))))) (.alt (.op 3 (.alt (.op 16 (.op 5 (.op 17 (.op 18 (.nil))))) (.op 5 (.op 16 (.op 17 (.op 18 (.nil))))))) (.op 5 (.alt (.op 16 (.op 3 (.op 17 (.op 18 (.nil))))) (.op 3 (.op 16 (.op 17 (.op 18 (.nil)))))))))) (.alt (.op 3 (.alt (.op 15 (.alt (.op 16 (.op 5 (.op 17 (.op 18 (.nil))))) (.op 5 (.op 16 (.op 17 (.op 18 (.nil))))))) (.op 5 (.op 15 (.op 16 (.op 17 (.op 18 (.nil)))))))) (.op 5 (.alt (.op 15 (.alt (.op 16 (.op 3 (.op 17 (.op 18 (.nil))))) (.op 3 (.op 16 (.op 17 (.op 18 (.nil))))))) (.op 3 (.op 15 (.op 16 (.op 17 (.op 18 (.nil))))))))))))))))))))))) (by kernel_rfl) ?_;refine⟨_,zbT (hdr hmY) (i:=2) rfl,?_⟩;refine⟨u8 e.l,zac (zaa (hdr fY)) (i:=2) rfl,?_⟩;refine⟨l,by rw [<- hle],hll,?_⟩;refine⟨slV y,by have:=zac (zaa (hdr fBY)) (i:=l*1) (v:=slV y) (by rw [Nat.mul_one];exact hrl);exact this,?_⟩;have hsz:x.ev.length-(k+1)<x.ev.length-k:=(by omega);have app:∀ {K:Value->World->Prop},(∀ p2 c2 V,((MixH V b x (some ⟨bp,op,none⟩) c [nilV,nilV,.slice (some ⟨B,0,none⟩) locs locs]/\V.heap[Z.heap.size]?=some (.cells (evE.enc e).toArray 225 (0,0))) /\
      SatR ((storeVar 150 ⟨B,0+l*1,none⟩ (slV (y.1++[k],p2,c2))).run Tryz.prog V) fun _ S=>MixH S b x (some ⟨bp,op,none⟩) c [nilV,nilV,.slice (some ⟨B,0,none⟩) locs locs]/\RowLH S B (W.set l (y.1++[k],p2,c2))/\w.grownBy S (some b)/\(W.set l (y.1++[k],p2,c2)).length=locs/\wrsG (k+1) (x.ev.drop (k+1)) ((W.set l (y.1++[k],p2,c2)).map (·.1))=(zbV x locs).wr/\Rows B S (W.set l (y.1++[k],p2,c2))/\∀ z∈W.set l (y.1++[k],p2,c2),z.1.length<=k+1/\∀ a∈z.1,a<x.ev.length)->K (slV (y.1++[k],p2,c2)) V) ->
      SatR ((Builtin.append_ #[150,150] 150 #[slV y,.slice (some ⟨Y.drew.heap.size,0,none⟩) 1 1]).run Tryz.prog (Y.drew.alloc (.cells (natE.enc k).toArray 3))) K:=fun {K} h =>
     zbi (E:=natE) (T:=3) (B:=B) (l:=y.1) (news:=[k]) (cap:=y.2.2) (m:=1) Tryz.underlying150 k3 rfl rfl rfl (hyo.below (hd.trans hba)) rfl (zaW natE k) (by have:=gY.size;omega) (by omega) (by show (y.1.length+1)*8<=_;omega) fun p2 c2 V oV gV hbV hat2=>h p2 c2 V (fin p2 c2 V oV gV hat2)
    have hmA:=hold (.cells (natE.enc k).toArray 3 (0,0)) (hdr hmY);have fEA:=hold (.cells (natE.enc k).toArray 3 (0,0)) (hdr fY);refine And.intro ?_ (And.intro ?_ ?_)
    ·refine⟨⟨by decide,by decide,rfl⟩,natE.enc k,rfl,?_⟩;refine⟨hba,?_⟩;refine And.intro ?_ (And.intro ?_ ?_)
     ·refine app fun p2 c2 V ⟨⟨hmV,fEV⟩,hst⟩=>?_;refine And.intro ?_ ?_
      ·refine⟨_,zbT hmV (i:=2) rfl,?_⟩;refine⟨u8 e.l,zac (zaa fEV) (i:=2) rfl,?_⟩;refine⟨l,by rw [<- hle],hll,?_⟩;refine SatR.mono hst ?_;rintro _ S hS;refine nxI (by omega) ?_;exact⟨(k+1,W.set l (y.1++[k],p2,c2)),(cvE rfl rfl),⟨hkl,hS⟩,hsz⟩
      ·refine⟨u8 e.l,zac (zaa fEV) (i:=2) rfl,?_⟩;refine⟨_,zbT hmV (i:=2) rfl,?_⟩;refine⟨l,by rw [<- hle],hll,?_⟩;refine SatR.mono hst ?_;rintro _ S hS;refine nxI (by omega) ?_;exact⟨(k+1,W.set l (y.1++[k],p2,c2)),(cvE rfl rfl),⟨hkl,hS⟩,hsz⟩
     ·refine⟨_,zbT hmA (i:=2) rfl,?_⟩;refine And.intro ?_ ?_
      ·refine app fun p2 c2 V ⟨⟨hmV,fEV⟩,hst⟩=>?_;refine⟨u8 e.l,zac (zaa fEV) (i:=2) rfl,?_⟩;refine⟨l,by rw [<- hle],hll,?_⟩;refine SatR.mono hst ?_;rintro _ S hS;refine nxI (by omega) ?_;exact⟨(k+1,W.set l (y.1++[k],p2,c2)),(cvE rfl rfl),⟨hkl,hS⟩,hsz⟩
      ·refine⟨u8 e.l,zac (zaa fEA) (i:=2) rfl,?_⟩;refine app fun p2 c2 V ⟨⟨hmV,fEV⟩,hst⟩=>?_;refine⟨l,by rw [<- hle],hll,?_⟩;refine SatR.mono hst ?_;rintro _ S hS;refine nxI (by omega) ?_;exact⟨(k+1,W.set l (y.1++[k],p2,c2)),(cvE rfl rfl),⟨hkl,hS⟩,hsz⟩
     ·refine⟨u8 e.l,zac (zaa fEA) (i:=2) rfl,?_⟩;refine And.intro ?_ ?_
      ·refine app fun p2 c2 V ⟨⟨hmV,fEV⟩,hst⟩=>?_;refine⟨_,zbT hmV (i:=2) rfl,?_⟩;refine⟨l,by rw [<- hle],hll,?_⟩;refine SatR.mono hst ?_;rintro _ S hS;refine nxI (by omega) ?_;exact⟨(k+1,W.set l (y.1++[k],p2,c2)),(cvE rfl rfl),⟨hkl,hS⟩,hsz⟩
      ·refine⟨_,zbT hmA (i:=2) rfl,?_⟩;refine app fun p2 c2 V ⟨⟨hmV,fEV⟩,hst⟩=>?_;refine⟨l,by rw [<- hle],hll,?_⟩;refine SatR.mono hst ?_;rintro _ S hS;refine nxI (by omega) ?_;exact⟨(k+1,W.set l (y.1++[k],p2,c2)),(cvE rfl rfl),⟨hkl,hS⟩,hsz⟩
    ·refine⟨_,zbT (hdr hmY) (i:=2) rfl,?_⟩;refine And.intro ?_ ?_
     ·refine⟨⟨by decide,by decide,rfl⟩,natE.enc k,rfl,?_⟩;refine⟨hba,?_⟩;refine And.intro ?_ ?_
      ·refine app fun p2 c2 V ⟨⟨hmV,fEV⟩,hst⟩=>?_;refine⟨u8 e.l,zac (zaa fEV) (i:=2) rfl,?_⟩;refine⟨l,by rw [<- hle],hll,?_⟩;refine SatR.mono hst ?_;rintro _ S hS;refine nxI (by omega) ?_;exact⟨(k+1,W.set l (y.1++[k],p2,c2)),(cvE rfl rfl),⟨hkl,hS⟩,hsz⟩
      ·refine⟨u8 e.l,zac (zaa fEA) (i:=2) rfl,?_⟩;refine app fun p2 c2 V ⟨⟨hmV,fEV⟩,hst⟩=>?_;refine⟨l,by rw [<- hle],hll,?_⟩;refine SatR.mono hst ?_;rintro _ S hS;refine nxI (by omega) ?_;exact⟨(k+1,W.set l (y.1++[k],p2,c2)),(cvE rfl rfl),⟨hkl,hS⟩,hsz⟩
     ·refine⟨u8 e.l,zac (zaa (hdr fY)) (i:=2) rfl,?_⟩;refine⟨⟨by decide,by decide,rfl⟩,natE.enc k,rfl,?_⟩;refine⟨hba,?_⟩;refine app fun p2 c2 V ⟨⟨hmV,fEV⟩,hst⟩=>?_;refine⟨l,by rw [<- hle],hll,?_⟩;refine SatR.mono hst ?_;rintro _ S hS;refine nxI (by omega) ?_;exact⟨(k+1,W.set l (y.1++[k],p2,c2)),(cvE rfl rfl),⟨hkl,hS⟩,hsz⟩
    ·refine⟨u8 e.l,zac (zaa (hdr fY)) (i:=2) rfl,?_⟩;refine And.intro ?_ ?_
     ·refine⟨⟨by decide,by decide,rfl⟩,natE.enc k,rfl,?_⟩;refine⟨hba,?_⟩;refine And.intro ?_ ?_
      ·refine app fun p2 c2 V ⟨⟨hmV,fEV⟩,hst⟩=>?_;refine⟨_,zbT hmV (i:=2) rfl,?_⟩;refine⟨l,by rw [<- hle],hll,?_⟩;refine SatR.mono hst ?_;rintro _ S hS;refine nxI (by omega) ?_;exact⟨(k+1,W.set l (y.1++[k],p2,c2)),(cvE rfl rfl),⟨hkl,hS⟩,hsz⟩
      ·refine⟨_,zbT hmA (i:=2) rfl,?_⟩;refine app fun p2 c2 V ⟨⟨hmV,fEV⟩,hst⟩=>?_;refine⟨l,by rw [<- hle],hll,?_⟩;refine SatR.mono hst ?_;rintro _ S hS;refine nxI (by omega) ?_;exact⟨(k+1,W.set l (y.1++[k],p2,c2)),(cvE rfl rfl),⟨hkl,hS⟩,hsz⟩
     ·refine⟨_,zbT (hdr hmY) (i:=2) rfl,?_⟩;refine⟨⟨by decide,by decide,rfl⟩,natE.enc k,rfl,?_⟩;refine⟨hba,?_⟩;refine app fun p2 c2 V ⟨⟨hmV,fEV⟩,hst⟩=>?_;refine⟨l,by rw [<- hle],hll,?_⟩;refine SatR.mono hst ?_;rintro _ S hS;refine nxI (by omega) ?_;exact⟨(k+1,W.set l (y.1++[k],p2,c2)),(cvE rfl rfl),⟨hkl,hS⟩,hsz⟩
   ·have h:¬ e.k=2:=fun e'=>dF h (by rw [e'];rfl);rw [if_neg h] at hacc;refine nxI (by omega) ?_;exact⟨(k+1,W),(cvE rfl rfl),⟨hkl,hmY,fBY,gY,hWl,hacc,hRY,fun y hy=>⟨by have:=(hL y hy).1;show _<=k+1;omega,(hL y hy).2⟩⟩,zdc (by omega)⟩
  ·have hc:¬ (k:Int)<(x.ev.length:Int):=dF hc;obtain rfl:k=x.ev.length:=by omega
   rw [List.drop_length] at hacc;exact⟨W,(cvE rfl rfl),hmZ,fZ,gZ,hWl,hacc,hR,fun y hy=>⟨by have:=(hL y hy).1;omega,(hL y hy).2⟩⟩
 rintro W X ⟨hmX,fX,gX,hWl,hwr,hR,hWb⟩;refine⟨_,zdR hmX,?_⟩;obtain⟨RS,hRS⟩:=nm ((zbV x locs).rs);have hRSg:RS=rdsG x.ev (W.map (·.1)) 0 x.ev:=by rw [hRS,hwr];rfl
 rw [<- hRS,<- hwr];have sX:B<X.heap.size:=hlt fX;refine⟨Nat×List (Nat×List Nat)×List NatL×(Option Addr×Nat)×(Option Addr×Nat),fun s=>⟨[(0,At0 b),(53,.slice q x.ev.length c),(54,i64 x.ev.length),(55,i64 (s.1:Nat))],[]⟩,
  fun s Z=>s.1<=x.ev.length/\RS=s.2.1++rdsG x.ev (W.map (·.1)) s.1 (x.ev.drop s.1)/\s.2.1.length<=s.1/\s.2.2.1.map (·.1)=s.2.1.map (·.2)/\MixH Z b x q c [.slice s.2.2.2.1.1 (s.2.1.map (·.1)).length s.2.2.2.1.2,.slice s.2.2.2.2.1 s.2.2.1.length s.2.2.2.2.2,.slice (some ⟨B,0,none⟩) locs locs]/\RowLH Z B W/\w.grownBy Z (some b)/\(∀ y∈W,OwnS natE 3 B Z y.2.1 y.2.2 y.1)/\(∀ y∈s.2.2.1,OwnS natE 3 B Z y.2.1 y.2.2 y.1) /\
   OwnS natE 3 B Z s.2.2.2.1.1 s.2.2.2.1.2 (s.2.1.map (·.1))/\OwnS zbt 150 B Z s.2.2.2.2.1 s.2.2.2.2.2 s.2.2.1/\(∀ a,s.2.2.2.1.1=some a->∀ y,y∈s.2.2.1\/y∈W->∀ b',y.2.1=some b'->a.block≠b'.block)/\(∀ a,s.2.2.2.2.1=some a->a.block≠B),
  fun s=>x.ev.length-s.1,(0,[],[],(none,0),(none,0)),
  (cvE rfl rfl),⟨Nat.zero_le _,hRSg,Nat.le_refl _,rfl,hmX,fX,gX,hR.own,fun y hy=>(by cases hy),OwnS.nil,OwnS.nil,fun a ha=>(by cases ha),fun a ha=>(by cases ha)⟩,?_⟩
 clear hmX fX gX hR sX;rintro⟨k,dn,xs,⟨p1,c1⟩,⟨p2,c2⟩⟩ Z ⟨hk,hspec,hdl,hxs,hmZ,fZ,gZ,hWo,hxo,ho1,ho2,hd1,hd2⟩;dsimp only at hk hspec hdl hxs hmZ hxo ho1 ho2 hd1 hd2 ⊢;refine biE (fun hc=>?_) fun hc=>?_
 ·have hc:(k:Int)<(x.ev.length:Int):=dT hc;have hkl:k<x.ev.length:=by omega
  obtain⟨e,he⟩:∃ e,x.ev[k]=e:=⟨_,rfl⟩;have hem:e∈x.ev:=by rw [<- he];exact gM hkl
  rw [<- List.getElem_cons_drop hkl,he] at hspec;have hlZ:=zpX hl hqb gZ;obtain⟨bp,op,hqe,hlp,hat⟩:=hlZ.at hkl;subst hqe;refine⟨k,rfl,hkl,?_⟩;refine⟨evE.enc e,rfl,by rw [<- he];exact hat k hkl,hlp,?_⟩;refine zap (X:=Z) (v := .agg (evE.enc e).toArray) k225 rfl rfl (List.all_eq_true.2 fun u hu=>evE.one e u hu) fun Y hbY fY sY=>?_;have gY:=zae gZ (zah (row:=some b) hbY);have hmY:=zab hbY hmZ;have fBY:=zab hbY fZ;have fY:Y.heap[Z.heap.size]?=some (.cells (evE.enc e).toArray 225 (0,0)):=fY;refine⟨u8 e.k,zac (zaa fY) (i:=1) rfl,?_⟩;refine biE (fun h=>?_) fun h=>?_
  ·have h:¬ e.k=1:=fun e'=>by
    rw [e'] at h;exact absurd h (by decide)
   have hspec:RS=dn++(if e.k=1 then (k,((W.map (·.1)).getD e.l.toNat []).filter fun w=>decide ((x.ev.getD w ev0).v=e.v))::rdsG x.ev (W.map (·.1)) (k+1) (x.ev.drop (k+1)) else rdsG x.ev (W.map (·.1)) (k+1) (x.ev.drop (k+1))):=hspec;rw [if_neg h] at hspec;refine nxI (by omega) ?_;exact⟨(k+1,dn,xs,(p1,c1),(p2,c2)),(cvE rfl rfl),⟨hkl,hspec,by show dn.length<=k+1;omega,hxs,hmY,fBY,gY,fun y hy=>(hWo y hy).below hbY,fun y hy=>(hxo y hy).below hbY,ho1.below hbY,ho2.below hbY,hd1,hd2⟩,zdc (by omega)⟩
  ·have h1:decide ((e.k.toNat:Int)=1)=true:=by simpa using h
   have h:e.k=1:=zbe.1 (dT h1);obtain⟨l,hle⟩:∃ l,e.l.toNat=l:=⟨_,rfl⟩;have hll:l<locs:=by rw [<- hle];exact hv e hem (.inl h)
   have hlW:l<W.length:=by omega
   obtain⟨y,hy⟩:∃ y,W[l]?=some y:=⟨_,gE hlW⟩;have hym:y∈W:=List.mem_of_getElem? hy;have hgd:(W.map (·.1)).getD l []=y.1:=by rw [gDe,List.getElem?_map,hy];rfl
   obtain⟨P,hP⟩:∃ P:Nat->Bool,P=fun w=>decide ((x.ev.getD w ev0).v=e.v):=⟨_,rfl⟩;have hspec:RS=dn++(k,y.1.filter P)::rdsG x.ev (W.map (·.1)) (k+1) (x.ev.drop (k+1)):=by
    have hspec:RS=dn++(if e.k=1 then (k,((W.map (·.1)).getD e.l.toNat []).filter fun w=>decide ((x.ev.getD w ev0).v=e.v))::rdsG x.ev (W.map (·.1)) (k+1) (x.ev.drop (k+1)) else rdsG x.ev (W.map (·.1)) (k+1) (x.ev.drop (k+1))):=hspec;rw [if_pos h,hle,hgd,<- hP] at hspec;exact hspec
   obtain⟨hy48,hyb⟩:=hWb y hym;have hyo:=(hWo y hym).below hbY;have hrl:(rowL W)[l]?=some (slV y):=by unfold rowL;rw [List.getElem?_map,hy];rfl
   have hd:Bw Y Y.drew:=(Below.refl _ Y).drew;refine DrawE.ord [] [0,1,2,3,4,5,6,7,8,9] (by kernel_rfl) ?_;refine⟨_,zbT (hdr hmY) (i:=2) rfl,?_⟩;refine⟨u8 e.l,zac (zaa (hdr fY)) (i:=2) rfl,?_⟩;refine⟨l,by rw [<- hle],hll,?_⟩;refine⟨slV y,by have:=zac (zaa (hdr fBY)) (i:=l*1) (v:=slV y) (by rw [Nat.mul_one];exact hrl);exact this,?_⟩;obtain⟨M,hM⟩:=nm (Y.heap.size);refine⟨Nat×List Nat×Option Addr×Nat,fun s=>⟨[(0,At0 b),(6,i64 (k:Nat)),(7,At0 Z.heap.size),(8,.slice s.2.2.1 s.2.1.length s.2.2.2),(53,.slice (some ⟨bp,op,none⟩) x.ev.length c),(54,i64 x.ev.length),(55,i64 (k:Nat)),(70,slV y),(71,i64 y.1.length),(72,i64 (s.1:Nat))],[]⟩,
    fun s V=>s.1<=y.1.length/\s.2.1=(y.1.take s.1).filter P/\OwnS natE 3 M V s.2.2.1 s.2.2.2 s.2.1/\Below M Y V,fun s=>y.1.length-s.1,(0,[],none,0),
    (cvE rfl rfl),⟨Nat.zero_le _,rfl,OwnS.nil,by rw [hM];exact hd⟩,?_⟩
   rintro⟨i,fr,p3,c3⟩ V ⟨hi,hfr,hoV,hbV⟩;dsimp only at hi hfr hoV ⊢;have sV:=hbV.size;have hmV:=(hbV.block b (by have:=hlt hmY;omega)).trans hmY;have fEV:=(hbV.block Z.heap.size (by have:=hlt fY;omega)).trans fY;have fBV:=(hbV.block B (by have:=hlt fBY;omega)).trans fBY;have hbYV:Bw Y V:=by rw [hM] at hbV;exact hbV
   have hyoV:=hyo.below hbYV;have hfl:fr.length<=i:=by rw [hfr];exact Nat.le_trans (List.length_filter_le _ _) (by rw [List.length_take];exact Nat.min_le_left _ _)
   refine biE (fun hc=>?_) fun hc=>?_
   ·have hc:(i:Int)<(y.1.length:Int):=dT hc;have hil:i<y.1.length:=(by omega);have hyi:=hyb y.1[i] (gM hil);have hlV:=zpX hl hqb (za6 gY (hbV.mono (by have:=gY.size;omega)));obtain⟨by_,oy,hye,hly,haty⟩:=hyoV.row.at hil;obtain⟨bq,oq,hqe,hlq,hatq⟩:=hlV.at hyi;simp only [Option.some.injEq,Addr.mk.injEq,and_true] at hqe;obtain⟨rfl,rfl⟩:=hqe;have htk:(y.1.take (i+1)).filter P=fr++(if P y.1[i] then [y.1[i]] else []):=by
     rw [tsg hil,List.filter_append,hfr]
     cases hPi:P y.1[i] <;> simp [hPi]
    have hPv:P y.1[i]=decide (x.ev[y.1[i]].v=e.v):=by
     rw [hP];show decide ((x.ev.getD y.1[i] ev0).v=e.v)=_;rw [gDe,gE hyi];rfl
    rw [show slV y = .slice (some ⟨by_,oy,none⟩) y.1.length y.2.2 by unfold slV;rw [hye]];refine⟨i,rfl,hil,?_⟩;refine⟨i64 y.1[i],zac (haty i hil) (i:=0) rfl,?_⟩;refine DrawE.ord [] [0,1,2,3,4,5,6,7,8,9,10,11] (by kernel_rfl) ?_;refine⟨_,zdR (hdr hmV),?_⟩;refine⟨y.1[i],rfl,hyi,?_⟩;have hdV:Bw V V.drew:=(Below.refl _ V).drew;refine⟨u8 x.ev[y.1[i]].v,by have:=zac (zaq hdV (hatq y.1[i] hyi)) (i:=3) (v:=u8 x.ev[y.1[i]].v) rfl;exact this,?_⟩;refine⟨u8 e.v,zac (zaa (hdr fEV)) (i:=3) rfl,?_⟩;refine biE (fun hq=>?_) fun hq=>?_
    ·have hq:x.ev[y.1[i]].v=e.v:=zbe.1 (dT hq);rw [hPv,decide_eq_true hq,if_pos rfl] at htk;refine⟨⟨by decide,by decide,rfl⟩,natE.enc y.1[i],rfl,?_⟩;have hba:Below V.drew.heap.size V.drew (V.drew.alloc (.cells (natE.enc y.1[i]).toArray 3)):=zba _ _;refine zbi (E:=natE) (T:=3) (B:=M) (l:=fr) (news:=[y.1[i]]) (cap:=c3) (m:=1) Tryz.underlying150 k3 rfl rfl rfl (hoV.below (hdV.trans hba)) rfl (zaW natE y.1[i]) (by have:=hba.size;have:=hdV.size;omega) (by omega) (by show (fr.length+1)*8<=_;omega) ?_;intro p4 c4 U oU gU hbU hat4;refine nxI (by omega) ?_;refine⟨(i+1,fr++[y.1[i]],p4,c4),(cvE rfl rfl),⟨hil,htk.symm,oU,?_⟩,zdc (by omega)⟩;exact ((hbV.trans (hdV.mono (by omega))).trans (hba.mono (by have:=hdV.size;omega))).trans hbU
    ·have hq:¬ x.ev[y.1[i]].v=e.v:=fun e'=>dF hq (by rw [e']);rw [hPv,decide_eq_false hq] at htk;simp only [Bool.false_eq_true,if_false,List.append_nil] at htk;refine nxI (by omega) ?_;exact⟨(i+1,fr,p3,c3),(cvE rfl rfl),⟨hil,htk.symm,hoV.below hdV,hbV.trans (hdV.mono (by omega))⟩,zdc (by omega)⟩
   ·have hc:¬ (i:Int)<(y.1.length:Int):=dF hc;obtain rfl:i=y.1.length:=(by omega);rw [List.take_length] at hfr;have hbMB:B<=M:=(by have:=hlt fBY;omega);have hxlen:xs.length=dn.length:=by
     have:=congrArg List.length hxs;simpa using this
    refine⟨.slice p1 (dn.map (·.1)).length c1,zbT hmV (i:=0) rfl,?_⟩;refine⟨⟨by decide,by decide,rfl⟩,natE.enc k,rfl,?_⟩;obtain⟨V1,hV1⟩:=nm (V.alloc (.cells (natE.enc k).toArray 3));have hb1:Bw V V1:=(by rw [hV1];exact (zba _ _));have s1:V1.heap.size=V.heap.size+1:=(by rw [hV1];exact wz _ _);have hZV:Bw Z V:=zst hbY hbYV;have hZV1:Bw Z V1:=zst hZV hb1;have ho1V:=ho1.below hZV1;rw [<- hV1];refine appI ho1V (by rw [hV1];exact zaW natE k) (by omega) (by rw [List.length_map];omega) fun q1 d1 U oU gU hat1=>?_;rw [zb9] at gU;have hmV1:=zab hb1 hmV;have hmU:=zaM hmV1 ho1V (by decide) gU;have fBU:=zaM (zab hb1 fBV) ho1V (by decide) gU;refine zal k150 hmU (o:=0+333) (v := .slice q1 (dn.map (·.1)++[k]).length d1) rfl rfl (by rw [lap,zaC];show 333<336;decide) rfl fun S fS gS sS=>?_;rw [show 0+333=333+0 from rfl,ziG] at fS;have fS:MixH S b x (some ⟨bp,op,none⟩) c [.slice q1 (dn.map (·.1)++[k]).length d1,.slice p2 xs.length c2,.slice (some ⟨B,0,none⟩) locs locs]:=fS;have p1M:∀ a,p1=some a->a.block<M:=fun a ha=>by have:=(zas ho1 ha).2.1;have:=hbY.size;omega
    have hoU:OwnS natE 3 M U p3 c3 fr:=zd7 (hoV.below hb1) gU fun a b' ha hb e=>by have:=p1M a ha;have:=(zas hoV hb).1;omega
    have hWU:∀ y∈W,OwnS natE 3 B U y.2.1 y.2.2 y.1:=fun y hy=>zd7 ((hWo y hy).below hZV1) gU fun a b' ha hb=>hd1 a ha y (.inr hy) b' hb;have hxU:∀ y∈xs,OwnS natE 3 B U y.2.1 y.2.2 y.1:=fun y hy=>zd7 ((hxo y hy).below hZV1) gU fun a b' ha hb=>hd1 a ha y (.inl hy) b' hb;have ho2U:=zbF (ho2.below hZV1) ho1V (by decide) gU;have hoS:=zaQ hoU hmU (by decide) gS;have hWS:∀ y∈W,OwnS natE 3 B S y.2.1 y.2.2 y.1:=fun y hy=>zaQ (hWU y hy) hmU (by decide) gS;have hxS:∀ y∈xs,OwnS natE 3 B S y.2.1 y.2.2 y.1:=fun y hy=>zaQ (hxU y hy) hmU (by decide) gS;have ho2S:=zaQ ho2U hmU (by decide) gS;have ho1S:=zaQ oU hmU (by decide) gS;have hBb:B≠b:=(by omega);have fBS:=(gS.block B (hlt fBU) (by simp;omega)).trans fBU;refine⟨_,zbT fS (i:=1) rfl,?_⟩;refine⟨⟨by decide,by decide,rfl⟩,zbt.enc (fr,p3,c3),rfl,?_⟩;obtain⟨S1,hS1⟩:=nm (S.alloc (.cells (zbt.enc (fr,p3,c3)).toArray 150));have hbS1:Bw S S1:=(by rw [hS1];exact (zba _ _));have sS1:S1.heap.size=S.heap.size+1:=(by rw [hS1];exact wz _ _);have ho2S1:=ho2S.below hbS1;have sU:=gU.size;unfold opsE zcr;show SatR _ _;rw [<- hS1];refine appL ho2S1 (by rw [hS1];exact zaW zbt (fr,p3,c3)) (by omega) (by omega) fun q2 d2 N oN gN hat2=>?_;rw [zb9] at gN;have fN:=zaM (zab hbS1 fS) ho2S1 (by decide) gN;refine zal k151 fN (o:=0+334) (v := .slice q2 (xs++[(fr,p3,c3)]).length d2) rfl rfl (by rw [lap,zaC];show 334<336;decide) rfl fun O fO gO sO=>?_;rw [show 0+334=333+1 from rfl,ziG] at fO;have fO:MixH O b x (some ⟨bp,op,none⟩) c [.slice q1 ((dn++[(k,fr)]).map (·.1)).length d1,.slice q2 (xs++[(fr,p3,c3)]).length d2,.slice (some ⟨B,0,none⟩) locs locs]:=by
     rw [List.map_append];exact fO
    have step:∀ {q:Option Addr} {cc:Nat} {ll:List Nat} {B':Nat},OwnS natE 3 B' S q cc ll->OwnS natE 3 B' O q cc ll:=fun h =>
     zaQ (zbF (h.below hbS1) ho2S1 (by decide) gN) fN (by decide) gO
    have h2B:∀ a,p2=some a->a.block≠B:=hd2;have fBO:RowLH O B W:=by
     have h1:=zab hbS1 fBS;have h2:=(gN.block B (hlt h1) fun e=>by
      cases hp:p2 with
      | none=>rw [hp] at e;cases e
      | some a =>
       rw [hp] at e;simp only [Option.map_some,Option.some.injEq] at e;exact hd2 a hp e.symm).trans h1
     exact (gO.block B (hlt h2) (by simp;omega)).trans h2
    have newr:∀ a,q1=some a->p1=some a\/V.heap.size<=a.block:=fun a ha=>(hat1 a ha).imp id fun h=>by omega
    have new2:∀ a,q2=some a->p2=some a\/U.heap.size<=a.block:=fun a ha=>(hat2 a ha).imp id fun h=>by omega
    have frM:∀ a,p3=some a->M<=a.block/\a.block<V.heap.size:=fun a ha=>⟨(zas hoV ha).1,(zas hoV ha).2.1⟩;have hwb:w.grownBy O (some b):=by
     have sG:=gS.size;have sZ:=hlt fZ;have e0:Below B Z V1:=hZV1.mono (by omega);have e1:Below B V1 U:=zaX ho1V (by omega) (Nat.le_refl _) gU;have e2:Below B S S1:=hbS1.mono (by omega);have e3:Below B S1 N:=zaX ho2S1 (by omega) (Nat.le_refl _) gN;rw [hB] at e0 e1 e2 e3;exact zae (za6 (za6 (zae (za6 (za6 gZ e0) e1) gS) e2) e3) gO
    refine nxI (by omega) ?_;refine⟨(k+1,dn++[(k,fr)],xs++[(fr,p3,c3)],(q1,d1),(q2,d2)),(cvE rfl rfl),⟨hkl,?_,?_,?_,fO,fBO,hwb,fun y hy=>step (hWS y hy),fun y hy=>?_,?_,zaQ oN fN (by decide) gO,fun a ha y hy b' hb'=>?_,fun a ha=>?_⟩,zdc (by omega)⟩
    ·show RS=(dn++[(k,fr)])++_;rw [hspec,<- hfr,List.append_assoc];rfl
    ·show (dn++[(k,fr)]).length<=k+1;simp only [lap,List.length_cons,List.length_nil];omega
    ·show (xs++[(fr,p3,c3)]).map (·.1)=(dn++[(k,fr)]).map (·.2);rw [List.map_append,List.map_append,hxs];rfl
    ·rcases List.mem_append.1 hy with hy | hy
     ·exact step (hxS y hy)
     ·rw [List.mem_singleton.1 hy];exact step (hoS.lower hbMB)
    ·show OwnS natE 3 B O q1 d1 ((dn++[(k,fr)]).map (·.1));rw [List.map_append];exact step ho1S
    ·have old:(y∈xs\/y∈W)\/y=(fr,p3,c3):=by
      rcases hy with hy | hy
      ·rcases List.mem_append.1 hy with hy | hy
       ·exact .inl (.inl hy)
       ·exact .inr (List.mem_singleton.1 hy)
      ·exact .inl (.inr hy)
     rcases old with hy | rfl
     ·rcases newr a ha with h | h
      ·exact hd1 a h y hy b' hb'
      ·have:b'.block<Z.heap.size:=by
        rcases hy with hy | hy
        ·exact (zas (hxo y hy) hb').2.1
        ·exact (zas (hWo y hy) hb').2.1
       have:=hZV.size;omega
     ·have h3:=frM b' hb';rcases newr a ha with h | h
      ·have:=p1M a h;omega
      ·omega
    ·rcases new2 a ha with h | h
     ·exact hd2 a h
     ·omega
 ·have hc:¬ (k:Int)<(x.ev.length:Int):=dF hc;obtain rfl:k=x.ev.length:=by omega
  rw [List.drop_length] at hspec;have hspec:RS=dn++[]:=hspec;rw [List.append_nil] at hspec;subst hspec;refine⟨rfl,⟨p1,p2,some ⟨B,0,none⟩,c1,c2,locs,xs,W,by rw [hWl];rw [List.length_map] at hmZ;exact hmZ,by rw [<- hB];exact ho1,hxs,by rw [<- hB];exact ho2,by rw [<- hB];exact hxo,rfl,?_,by rw [<- hB];exact hWo⟩,gZ⟩;rw [<- hB];have:=fZ.own (B:=B) (Nat.le_refl _) (by unfold maxLen;omega);rw [hWl] at this;exact this
end
theorem zlX {P:Program} {w:World} {t ty:TypeId} {a b:Nat} {K:Value->World->Prop} (k:K (i64 (min a b:Nat)) w):SatR ((Builtin.min_ #[t,t] ty #[i64 a,i64 b]).run P w) K:=by
 refine SatR.mk (v:=i64 (min a b:Nat)) (w':=w) ?_ k;by_cases h:(b:Int)<a
 ·have e:min a b=b:=Nat.min_eq_right (by omega);rw [e];simp [Builtin.min_,Builtin.min2,i64,h]
 ·have e:min a b=a:=Nat.min_eq_left (by omega);rw [e];simp [Builtin.min_,Builtin.min2,i64,h]
section
variable {b o:Nat} {x:ExD} {q:Option Addr} {c:Nat} {w:World} {r:Value} {p2 p3:Option Addr} {c2 c3 lim:Nat} {xs ys:List NatL}
def cntF (lim:Nat) (fs ws:List (List Nat)):Nat:=match cntS lim fs 1 with
 | none=>0
 | some n=>cntW lim ws n
theorem zp3 (hm:zax w ⟨b,o,none⟩ (exC x q c++[r,.slice p2 xs.length c2,.slice p3 ys.length c3])) (h2:SlR zbt w p2 xs) (h3:SlR zbt w p3 ys) (hx:∀ y∈xs,y.1.length<=1000) (hy:∀ y∈ys,y.1.length<=1000) (hxl:xs.length<=1000) (hyl:ys.length<=1000) (hl0:1<=lim) (hl:lim<=100000) :
  Calls Tryz.prog 96 #[.pointer (some ⟨b,o,none⟩),i64 lim] w fun e w'=>e = .returned (i64 (cntF lim (xs.map (·.1)) (ys.map (·.1)):Nat))/\w=w':=by
 refine cofE 52 [.pointer (some ⟨b,o,none⟩),i64 lim] Tryz.func96 ?_;have g2:w.cell? ⟨b,o+334,none⟩=some (.slice p2 xs.length c2):=zac hm (zg0 (i:=1) rfl);have g3:w.cell? ⟨b,o+335,none⟩=some (.slice p3 ys.length c3):=zac hm (zg0 (i:=2) rfl);refine⟨_,g2,?_⟩;obtain⟨fs,hfs⟩:=nm (xs.map (·.1));have hfl:fs.length=xs.length:=by rw [hfs,List.length_map]
 rw [<- hfs];refine⟨Nat×Nat,fun s=>⟨[(0,.pointer (some ⟨b,o,none⟩)),(1,i64 lim),(5,i64 (s.2:Nat)),(14,.slice p2 xs.length c2),(15,i64 xs.length),(16,i64 (s.1:Nat))],[]⟩,
  fun s X=>s.1<=xs.length/\s.2<=lim/\cntS lim (fs.drop s.1) s.2=cntS lim fs 1/\w=X,fun s=>xs.length-s.1,(0,1),
  (cvE rfl rfl),⟨Nat.zero_le _,hl0,rfl,rfl⟩,?_⟩
 rintro⟨k,n⟩ _ ⟨hk,hnl,hacc,rfl⟩;dsimp only at hk hnl hacc ⊢;refine biE (fun hc=>?_) fun hc=>?_
 ·have hc:(k:Int)<(xs.length:Int):=dT hc;have hkl:k<xs.length:=by omega
  obtain⟨bp,op,rfl,hlp,hat⟩:=h2.at hkl;have hfk:fs[k]'(by omega)=xs[k].1:=by simp [hfs]
  rw [<- List.getElem_cons_drop (show k<fs.length by omega),hfk] at hacc;have hacc:(if xs[k].1=[] then none else cntS lim (fs.drop (k+1)) (min (n*xs[k].1.length) lim))=cntS lim fs 1:=hacc;have h1000:=hx xs[k] (gM hkl);refine⟨k,rfl,hkl,?_⟩;refine⟨slV xs[k],zac (hat k hkl) (i:=0) rfl,?_⟩;refine biE (fun h=>?_) fun h=>?_
  ·have h:(xs[k].1.length:Int)=0:=dT h;have h0:xs[k].1=[]:=List.eq_nil_of_length_eq_zero (by omega);rw [if_pos h0] at hacc;refine⟨?_,rfl⟩;unfold cntF;rw [<- hacc];rfl
  ·have h:¬ (xs[k].1.length:Int)=0:=dF h;have h0:xs[k].1≠[]:=fun e=>h (by rw [e];rfl);rw [if_neg h0] at hacc;have hm':n*xs[k].1.length<=100000*1000:=Nat.mul_le_mul (by omega) h1000;refine⟨((n*xs[k].1.length:Nat):Int),by rw [Int.natCast_mul];exact zaf (by rw [<- Int.natCast_mul];omega),?_⟩;refine zlX ?_;refine nxI (by omega) ?_;exact⟨(k+1,min (n*xs[k].1.length) lim),(cvE rfl rfl),⟨hkl,Nat.min_le_right _ _,hacc,rfl⟩,zdc (by omega)⟩
 have hc:¬ (k:Int)<(xs.length:Int):=dF hc;rw [List.drop_eq_nil_of_le (by omega)] at hacc;have hacc:some n=cntS lim fs 1:=hacc;have hres:cntF lim fs (ys.map (·.1))=cntW lim (ys.map (·.1)) n:=by unfold cntF;rw [<- hacc]
 rw [hres];obtain⟨ws,hws⟩:=nm (ys.map (·.1));have hwl:ws.length=ys.length:=by rw [hws,List.length_map]
 rw [<- hws];clear hres hacc hc hk hfl hfs g2;refine⟨_,g3,?_⟩;refine⟨Nat×Nat,fun s=>⟨[(0,.pointer (some ⟨b,o,none⟩)),(1,i64 lim),(5,i64 (s.2:Nat)),(33,.slice p3 ys.length c3),(34,i64 ys.length),(35,i64 (s.1:Nat))],[]⟩,
  fun s X=>s.1<=ys.length/\s.2<=lim/\cntW lim (ws.drop s.1) s.2=cntW lim ws n/\w=X,fun s=>ys.length-s.1,(0,n),
  (cvE rfl rfl),⟨Nat.zero_le _,hnl,rfl,rfl⟩,?_⟩
 rintro⟨k,n'⟩ _ ⟨hk,hnl',hacc,rfl⟩;dsimp only at hk hnl' hacc ⊢;refine biE (fun hc=>?_) fun hc=>?_
 ·have hc:(k:Int)<(ys.length:Int):=dT hc;have hkl:k<ys.length:=by omega
  obtain⟨bp,op,rfl,hlp,hat⟩:=h3.at hkl;have hfk:ws[k]'(by omega)=ys[k].1:=by simp [hws]
  rw [<- List.getElem_cons_drop (show k<ws.length by omega),hfk] at hacc;obtain⟨L,hL⟩:=nm (ys[k].1.length);have hacc:cntW lim (ws.drop (k+1)) (cntK lim L L 2 n')=cntW lim ws n:=by rw [hL];exact hacc
  have h1000:=hy ys[k] (gM hkl);rw [<- hL] at h1000;refine⟨k,rfl,hkl,?_⟩;refine⟨slV ys[k],zac (hat k hkl) (i:=0) rfl,?_⟩;refine⟨Nat×Nat×Nat,fun s=>⟨[(0,.pointer (some ⟨b,o,none⟩)),(1,i64 lim),(5,i64 (s.2.2:Nat)),(9,slV ys[k]),(10,i64 (s.2.1:Nat)),(33,.slice (some ⟨bp,op,none⟩) ys.length c3),(34,i64 ys.length),(35,i64 (k:Nat))],[]⟩,
   fun s X=>s.2.2<=lim/\L<=s.2.1+s.1/\s.2.1<=L+2/\cntK lim L s.1 s.2.1 s.2.2=cntK lim L L 2 n'/\w=X,fun s=>s.1,(L,2,n'),
   (cvE rfl rfl),⟨hnl',by show L<=2+L;omega,by show 2<=L+2;omega,rfl,rfl⟩,?_⟩
  rintro⟨m,j,n2⟩ _ ⟨hn2,hLj,hjL,hK,rfl⟩;dsimp only at hn2 hLj hjL hK ⊢;refine biE (fun hc=>?_) fun hc=>?_
  ·have hc:(j:Int)<(ys[k].1.length:Int):=dT hc;have hjl:j<L:=by omega
   obtain⟨m,rfl⟩:∃ m',m=m'+1:=⟨m-1,by omega⟩;have hK:(if j<L then cntK lim L m (j+1) (min (n2*j) lim) else n2)=cntK lim L L 2 n':=hK;rw [if_pos hjl] at hK;have hm':n2*j<=100000*1000:=Nat.mul_le_mul (by omega) (by omega);refine⟨((n2*j:Nat):Int),by rw [Int.natCast_mul];exact zaf (by rw [<- Int.natCast_mul];omega),?_⟩;refine zlX ?_;refine nxI (by omega) ?_;exact⟨(m,j+1,min (n2*j) lim),(cvE rfl rfl),⟨Nat.min_le_right _ _,by show L<=j+1+m;omega,by show j+1<=L+2;omega,hK,rfl⟩,Nat.lt_succ_self _⟩
  ·have hc:¬ (j:Int)<(ys[k].1.length:Int):=dF hc;have hjl:¬ j<L:=by omega
   have hK2:n2=cntK lim L L 2 n':=by
    rw [<- hK]
    cases m with
    | zero=>rfl
    | succ m =>
     show n2=if j<L then _ else n2
     rw [if_neg hjl]
   refine nxI (by omega) ?_;exact⟨(k+1,n2),(cvE rfl rfl),⟨hkl,hn2,by rw [hK2];exact hacc,rfl⟩,zdc (by omega)⟩
 ·have hc:¬ (k:Int)<(ys.length:Int):=dF hc;rw [List.drop_eq_nil_of_le (by omega)] at hacc;have hacc:n'=cntW lim ws n:=hacc;rw [<- hacc];exact⟨rfl,rfl⟩
end
theorem zcw:(zig).toArray.size=333:=by kernel_rfl
theorem zbB:(zdz).toArray.size=336:=by kernel_rfl
section
variable {w:World}
theorem zpZ {n:Nat}:CB 207 #[i64 n] w (.agg (exC (ex0 n) none 0).toArray):=by
 refine cofM 13 [i64 n] (.s .p (.c .p .p)) Tryz.func207 ?_;obtain⟨L,hL⟩:=nm (w.heap.size);obtain⟨X0,hX0⟩:=nm (w.alloc (.cells (zig).toArray 104));have f0:X0.heap[L]?=some (.cells (zig).toArray 104 (0,0)):=by rw [hX0,hL];exact hnew w _
 have s0:X0.heap.size=L+1:=by rw [hX0,hL];exact wz _ _
 have hb0:Bw w X0:=by rw [hX0];exact (zba w _)
 refine⟨Unit,fun _=>⟨[(2,At0 L),(3,At0 (L+1))],[]⟩,fun _ X=>X.heap[L]?=some (.cells (zig).toArray 104 (0,0))/\RelH X (L+1) (relN n)/\Bw w X,?_,?_⟩
 ·refine⟨relC (relN n),rfl,?_⟩;refine zap (X:=w.alloc (.cells (zig).toArray 104 (0,0))) (v := .agg (relC (relN n)).toArray) k102 (zad _) (by kernel_rfl) (zau _) fun V hbV fV sV=>?_;rw [<- hX0] at hbV fV sV;rw [s0] at fV sV;exact⟨(),⟨.cons (by rw [hL];rfl) (.cons (by rw [<- s0,hX0];rfl) .nil),rfl⟩,zab hbV f0,fV,(zst hb0 hbV)⟩
 rintro _ X ⟨f1,f2,hbX⟩;refine⟨relC (relN n),zad _,zaa f2,hlt f2,?_⟩;refine⟨relC (relN n),zad _,zaa f2,hlt f2,?_⟩;refine⟨relC (relN n),zad _,zaa f2,hlt f2,?_⟩;refine⟨relC (relN n),zad _,zaa f2,hlt f2,?_⟩;refine⟨relC (relN n),zad _,zaa f2,hlt f2,?_⟩;refine⟨relC (relN n),zad _,zaa f2,hlt f2,?_⟩;refine⟨exC (ex0 n) none 0,by kernel_rfl,?_⟩;refine zam (v := .agg (exC (ex0 n) none 0).toArray) k104 f1 (zaC _ _ _) zcw (zde _ _ _) ?_;exact⟨exC (ex0 n) none 0,zaC _ _ _,zaa (zaj f1),rfl,zag hbX (by omega) _⟩
end
end Go.Proofs.YtlkofpbdpplfkaaGreatDoor
