/- Contracts of functions, and plain facts, for the law that the last text of this claim proves. -/
import Derived.Test.YtkpaomeeknegpaaGreatDoorR1
import Derived.Test.YtkpaomeeknegpaaGreatDoorR2
import Derived.Test.YtkpaomeeknegpaaGreatDoorRows
import Derived.ProofKit
import Derived.OpenShut
import Derived.LaidLaws
import Derived.Below
import Derived.HandedShaped
import Derived.KernelRfl
import Derived.WalkKit
import Derived.ChangeOld
import Derived.SevenTiedAt
import Derived.LaidHandle
import Derived.Stop.LaidErr
import Derived.Lib.LaidTab
import Derived.SizedLaws
import Derived.Test.YtkpaomeeknegpaaGreatDoorR5
import Derived.Test.YtkpaomeeknegpaaGreatDoorR6
import Derived.Test.YtkpaomeeknegpaaGreatDoorR7
set_option linter.unusedSimpArgs false
set_option linter.unusedVariables false
namespace Go.Proofs.YtkpaomeeknegpaaGreatDoor
open Go.Vc Go.RowKit Go.Sei
open Go.ChangeShapes Go.WideShapes Go.ChangeAt
section
variable {H:Type} {enc:TypeId×Value->H} {P:Program} {w:Wd} {base:Nat} {spare:Nat->Bool} {held:Bool} {fuel:Nat} {t:TypeId} {cs:List Value} {x:DataW H×List MemPlace}
theorem znr (ht:P.underlying t=some (.int .u8)) (h:DataW.trod enc P w base spare held fuel t cs=some x):∃ b:UInt8,cs=[u8 b]/\x.1 = .lit (.int .u8 b.toNat):=by
 obtain⟨n,rfl,rfl,hw⟩:=DataW.trod_int ht h;have hb:=bounds_u8 hw;have e:((UInt8.ofNat n.toNat).toNat:Int)=n:=by
  rw [KH];omega
 exact⟨UInt8.ofNat n.toNat,by rw [u8,e],by rw [e]⟩
theorem zhm {n:Nat} {e:TypeId} (ht:P.underlying t=some (.array n e)) (he:P.underlying e=some (.int .u8)) (hc:P.cellsOf e=1) (hn:P.cellsOf t=n)
  (h:DataW.trod enc P w base spare held fuel t cs=some x):∃ bs:List UInt8,bs.length=n/\cs=bs.map u8/\x.1 = .agg (bs.map fun b => .lit (.int .u8 b.toNat)):=by
 obtain⟨xs,m,rfl,rfl,hl,hx,hel⟩:=DataW.trod_array ht h;rw [hn] at hl;have each:∀ i (h:i<n),∃ b:UInt8,cs[i]?=some (u8 b)/\xs[i]?.map (·.1)=some (.lit (.int .u8 b.toNat)):=fun i hi=>by
  have h1:=hel i hi;rw [hc,gE (by omega)] at h1;obtain⟨b,h2,h3⟩:=znr he h1;refine⟨b,?_,by rw [gE (by omega),Ue,h3]⟩;have:((cs.drop (i*1)).take 1)[0]?=some (u8 b):=by rw [h2];rfl
  simpa using this
 have:∀ k,k<=n->∃ bs:List UInt8,bs.length=k/\cs.take k=bs.map u8/\(xs.take k).map (·.1)=bs.map fun b => .lit (.int .u8 b.toNat):=by
  intro k
  induction k with
  | zero=>exact fun _=>⟨[],rfl,by simp,by simp⟩
  | succ k ih =>
   intro hk;obtain⟨bs,h1,h2,h3⟩:=ih (by omega);obtain⟨b,h4,h5⟩:=each k (by omega);have hk1:k<cs.length:=by omega
   have hk2:k<xs.length:=by omega
   rw [gE hk1] at h4;rw [gE hk2] at h5;refine⟨bs++[b],by simp [h1],?_,?_⟩
   ·rw [tsg hk1,h2,Uf h4];simp
   ·rw [tsg hk2,QR,h3];simp at h5;simp [h5]
 obtain⟨bs,h1,h2,h3⟩:=this n (UY _);rw [JH (by omega)] at h2 h3;exact⟨bs,h1,h2,by rw [<- h3]⟩
end
theorem zbf:Tryz.prog.cellsOf 5=1:=by kernel_rfl
theorem zud:Tryz.prog.cellsOf 4=1:=by kernel_rfl
theorem zlG (b o i:Nat):(⟨b,o,none⟩:Addr).add i=⟨b,o+i,none⟩:=by
 unfold Addr.add;by_cases h:i=0
 ·simp [h]
 ·simp [h]
section
variable {w:Wd} {base:Nat} {cs:List Value}
theorem zjS {a:Addr} {n:Nat} (hn:0<n) (h:w.cells? base a n=some cs):a.spot=none/\a.block<w.heap.size/\zF w ⟨a.block,a.off,none⟩ cs:=by
 obtain⟨_,hl,hc⟩:=World.cells?_some h;have h0:=hc 0 hn;rw [gE (by omega)] at h0;have hs:a.spot=none:=by simpa [Addr.add] using World.cell?_spot h0
 obtain⟨b,o,s⟩:=a;dsimp only at hs;subst hs;refine⟨rfl,JA _ _ h0,zaC fun i v hv=>?_⟩;have hi:i<n:=by have:=(Js.1 hv).1;omega
 have:=(hc i hi).trans hv;rw [zlG] at this;exact this
end
theorem zpC:ownKnob Tryz.prog.godebug=none:=by kernel_rfl
theorem zeA:laidOutB PG=true:=by kernel_rfl
section
variable {H:Type} {enc:TypeId×Value->H} {P:Program} {w:Wd} {base:Nat} {spare:Nat->Bool} {held:Bool} {fuel:Nat} {t e:TypeId} {cs:List Value} {x:DataW H×List MemPlace}
def Opens (enc:TypeId×Value->H) (P:Program) (w:Wd) (base:Nat) (spare:Nat->Bool) (held:Bool) (t:TypeId) (R:List Value->Prop):Prop :=
 ∀ fuel cs x,DataW.trod enc P w base spare held fuel t cs=some x->R cs
theorem Opens.field {fs:Array Field} {R:List Value->Prop} {i:Nat} {f:Field} {n:Nat} {xs:List (DataW H×List MemPlace)} {m:Nat} (hel:∀ (i:Nat) (f:Field),fs[i]?=some f->DataW.trod enc P w base spare held m f.type ((cs.drop f.offset).take (P.cellsOf f.type))=xs[i]?)
  (hl:xs.length=fs.size) (hi:fs[i]?=some f) {o:Nat} (hoo:f.offset=o) (hn:P.cellsOf f.type=n) (ho:Opens enc P w base spare held f.type R):R ((cs.drop o).take n):=by
 subst hoo;have h1:=hel i f hi;have:i<fs.size:=(Jk.1 hi).1;rw [gE (by omega),hn] at h1;exact ho _ _ _ h1
theorem jM (ht:P.underlying t=some (.int .u8)):Opens enc P w base spare held t fun cs=>∃ b:UInt8,cs=[u8 b]:=fun fuel cs x h=>by
 obtain⟨b,h,_⟩:=znr ht h;exact⟨b,h⟩
theorem zmh (ht:P.underlying t=some .bool):Opens enc P w base spare held t fun cs=>∃ b:Bool,cs=[.bool b]:=fun fuel cs x h=>by
 obtain⟨b,h,_⟩:=DataW.trod_bool ht h;exact⟨b,h⟩
theorem zrR {β:Type} {n:Nat} (i0:β) {Q:Nat->β->Prop} (h:∀ i,i<n->∃ b,Q i b):∃ bs:List β,bs.length=n/\∀ i (hi:i<bs.length),Q i bs[i]:=by
 have h2:∀ i,∃ b,i<n->Q i b:=fun i=>by
  by_cases hi:i<n
  ·obtain⟨b,hb⟩:=h i hi;exact⟨b,fun _=>hb⟩
  ·exact⟨i0,fun h=>Gs h hi⟩
 obtain⟨g,hg⟩:=Classical.axiomOfChoice h2;refine⟨(List.range n).map g,by simp,fun i hi=>?_⟩;simp only [Qq,Ky];exact hg i (by simpa using hi)
theorem cut (cs:List Value) (o n o':Nat) (h:o+n=o'):cs.drop o=(cs.drop o).take n++cs.drop o':=by
 rw [<- h,<- Uk,JQ]
end
theorem cC (t n:Nat) (h:Tryz.prog.cellsOf t=n):Tryz.prog.cellsOf t=n:=h
theorem zeE {H:Type} {enc:TypeId×Value->H} {a:Assume} {C:Checked} {os:Os} {f:FuncId} {fn:Func} {s:ChangeSpec} {conds:List PathCond} {apart fresh handsOn again:Bool} {X:Wd->Array Value->Prop}
  (hX:∀ (w w':Wd) (args:Array Value),w.heap=w'.heap->X w args->X w' args)
  (own:ownKnob C.prog.godebug=none) (started:os.Started) (noInit:C.prog.inits.idxOf? f=none) (hfn:C.prog.funcs[f]?=some fn)
  (witness:∃ (w:Wd) (tape:Tape) (i:Input),w.os=os/\(w.forCall tape i).Shaped C.prog/\i.vars=[]/\Input.okWide C.prog (w.forCall tape i) .any w.heap.size f i /\
   ((s.pre enc C.prog fn conds apart (w.forCall tape i).memory i.args/\X (w.forCall tape i).memory i.args)/\sizedMet enc C.prog fn (OpenSpec.ofChange s) apart (w.forCall tape i).memory i.args)/\a.holds C.prog (lone (Frame.enter C.prog f i.args .normal) [] (w.forCall tape i)))
  (contract:∀ (W:Wd) (base:Nat) (args:Array Value) (ds gs:List (DataW H)) (before:List MemPlace),
   (∀ (j:Nat) t v,fn.params[j]?=some t->args[j]?=some v->Value.okWide C.prog W .any base t v) ->
   DataW.Whole enc C.prog fn.params.toList s.vars apart W args.toList ds gs before->X W args->W.ShapedOpen C.prog ->
   (∃ ds gs before,DataW.Whole enc C.prog fn.params.toList (OpenSpec.ofChange s).vars apart W args.toList ds gs before/\∀ n∈DataW.weightsEach C.prog (fn.params.toList++(OpenSpec.ofChange s).bare.plain.varTypes C.prog) (ds++gs),n<=reachBytes) ->
   Calls C.prog f args W fun e W'=>∃ v,e = .returned v/\s.post enc C.prog fn apart fresh handsOn again W args v W') :
  ReturnsInHanded a C os f .any (fun w args=>(s.pre enc C.prog fn conds apart w args/\X w args)/\sizedMet enc C.prog fn (OpenSpec.ofChange s) apart w args) (s.post enc C.prog fn apart fresh handsOn again):=by
 refine returnsInHanded_of_calls own started noInit witness ?_;intro w tape i _ hsh _ hok hpre hholds;obtain⟨_,_,_,fn',hfn',_,_,_,_,hval⟩:=hok;have e:fn'=fn:=Uf (hfn'.symm.trans hfn);subst e;obtain⟨⟨⟨ds,gs,before,hw,hc⟩,hx⟩,hz⟩:=hpre;have hw':=DataW.Whole.of_heap (w':=w.forCall tape i) (by rfl) hw;obtain⟨_,ds2,gs2,before2,hw2,hall⟩:=hz;refine (contract (w.forCall tape i) w.heap.size i.args ds gs before hval hw' (hX _ _ _ (by rfl) hx) hsh ⟨ds2,gs2,before2,DataW.Whole.of_heap (w':=w.forCall tape i) (by rfl) hw2,fun n hn=>dT (Qj.1 hall n hn)⟩).mono fun e W' ⟨v,he,hp⟩=>?_;subst he;exact ChangeSpec.post_blind hp
section
variable {H:Type} {enc:TypeId×Value->H} {P:Program} {w:Wd} {base:Nat} {spare:Nat->Bool} {held:Bool} {fuel:Nat} {t:TypeId} {cs:List Value} {x:DataW H×List MemPlace}
def Wgt (P:Program) (t:TypeId) (d:DataW H):Prop:=∀ n∈d.weights P t,n<=reachBytes
theorem zrn {ds:List (DataW H)} {e:TypeId} (h:∀ n∈DataW.weightsAll P e ds,n<=reachBytes):∀ d∈ds,Wgt P e d:=by
 induction ds with
 | nil=>intro d hd;cases hd
 | cons a r ih =>
  intro d hd;simp only [DataW.weightsAll,QS] at h;rcases UD.1 hd with rfl | hd
  ·exact fun n hn=>h n (.inl hn)
  ·exact ih (fun n hn=>h n (.inr hn)) d hd
end
theorem zht {H:Type}:∀ {a b:List UInt8},a.map (fun b=>(DataW.lit (.int .u8 b.toNat):DataW H))=b.map (fun b=>DataW.lit (.int .u8 b.toNat))->a=b
 | [],[],_=>rfl
 | [],_::_,h=>by cases h
 | _::_,[],h=>by cases h
 | x::a,y::b,h=>by
  simp only [UC,QL,DataW.lit.injEq,Lit.int.injEq,true_and] at h;rw [zht h.2,Ug.1 (by omega:x.toNat=y.toNat)]
section
variable {H:Type} {enc:TypeId×Value->H} {P:Program} {w:Wd} {base:Nat} {spare:Nat->Bool} {held:Bool} {fuel F:Nat} {t e:TypeId} {cs:List Value} {x:DataW H×List MemPlace}
def OpensW (enc:TypeId×Value->H) (P:Program) (w:Wd) (base:Nat) (spare:Nat->Bool) (held:Bool) (F:Nat) (t:TypeId) (R:List Value->Prop):Prop :=
 ∀ n,n<F->∀ cs x,DataW.trod enc P w base spare held n t cs=some x->Wgt P t x.1->R cs
theorem zbc {R:List Value->Prop} (h:Opens enc P w base spare held t R):OpensW enc P w base spare held F t R:=fun n _ cs x h1 _=>h n cs x h1
theorem OpensW.field {fs:Array Field} {R:List Value->Prop} (ht:P.underlying t=some (.struct fs)) (h:DataW.trod enc P w base spare held fuel t cs=some x) (hw:Wgt P t x.1) (hF:fuel<=F) {i:Nat} {f:Field} (hf:fs[i]?=some f) {T o k:Nat} (hT:f.type=T) (hO:f.offset=o) (hk:P.cellsOf T=k)
  (ho:OpensW enc P w base spare held F T R):R ((cs.drop o).take k):=by
 subst hT hO hk;obtain⟨xs,n,rfl,rfl,hl,hx,hel⟩:=KK ht h;have h1:=hel i f hf;have hi:i<xs.length:=by rw [hx];exact (Jk.1 hf).1
 rw [gE hi] at h1;refine ho n (by omega) _ _ h1 fun m hm=>hw m ?_;simp only [DataW.weights,ht];refine DataW.weights_mem_each (j:=i) (t:=f.type) (d:=xs[i].1) ?_ ?_ m hm
 ·rw [KU];have:fs.toList[i]?=some f:=by simpa using hf
  rw [this];rfl
 ·rw [KU,gE hi];rfl
theorem zhk (ht:P.underlying t=some .string):OpensW enc P w base spare held F t fun cs=>∃ s:List UInt8,s.length<=140737488351232/\cs=[qH s]:=fun n _ cs x h hw=>by
 obtain⟨s,rfl,rfl,_⟩:=DataW.trod_string ht h;refine⟨s.data.toList,hw _ (by simp [DataW.weights]),?_⟩;unfold qH bs;rw [Array.toArray_toList]
theorem zcw {β:Type} (i0:β) {f:β->List Value} {Q:β->Prop} {sz:Nat} (hp:0<sz) (ht:P.underlying t=some (.slice e)) (hc:P.cellsOf e=sz) (hb:Nat.ble 1 (P.bytesOf e)=true) (ho:OpensW enc P w base spare held F e fun cs=>∃ b,Q b/\cs=f b) :
  OpensW enc P w base spare held (F+1) t fun cs=>∃ (p:OA) (cap:Nat) (l:List β),cs=[.slice p l.length cap]/\(l.length<=140737488351232/\l.length*P.bytesOf e<=140737488351232)/\l.length<=cap/\(∀ b∈l,Q b)/\∃ b o,(l.length=0\/p=some ⟨b,o,none⟩)/\∀ i (hi:i<l.length),b<w.heap.size/\zF w ⟨b,o+i*sz,none⟩ (f l[i]):=fun n hn cs x h hw=>by
 rcases DataW.trod_slice ht h with ⟨rfl,_⟩ | ⟨a,len,cap,elems,qp,n,rfl,rfl,hx,_,hlc,hcm,hlen,hel,_,_⟩
 ·exact⟨none,0,[],rfl,⟨by simp,by simp⟩,by simp,by simp,0,0,.inl rfl,fun i hi=>by simp at hi⟩
 ·subst hx;have hw':∀ m,m∈((elems.map (·.1)).length+(qp.map (·.1)).length)*P.bytesOf e::(DataW.weightsAll P e (elems.map (·.1))++DataW.weightsAll P e (qp.map (·.1)))->m<=reachBytes:=fun m hm=>by
   refine hw m ?_;simp only [DataW.weights,ht];exact hm
  have hb:=JS hb;have hlb:len<=140737488351232/\len*P.bytesOf e<=140737488351232:=by
   have h1:=hw' _ Kz;simp only [QN] at h1;have:elems.length*1<=(elems.length+qp.length)*P.bytesOf e:=Uq (Qy _ _) hb;have h2:elems.length*P.bytesOf e<=(elems.length+qp.length)*P.bytesOf e:=Uq (Qy _ _) (UY _);have hr:reachBytes=140737488351232:=rfl;rw [<- hlen];omega
  have each:∀ i,i<len->∃ m:β,Q m/\(a.add (i*sz)).spot=none/\(a.add (i*sz)).block<w.heap.size/\zF w ⟨(a.add (i*sz)).block,(a.add (i*sz)).off,none⟩ (f m):=fun i hi=>by
   have h1:=hel i hi;rw [hc,gE (by omega),Option.bind_eq_some_iff] at h1;obtain⟨cs,h2,h3⟩:=h1;obtain⟨m,hq,rfl⟩:=ho n (by omega) _ _ h3 (zrn (ds:=elems.map (·.1)) (fun m hm=>hw' m (JY _ (JW _ hm))) _ (Kl (gM _)));exact⟨m,hq,zjS hp h2⟩
  obtain⟨l,h1,h2⟩:=zrR i0 each;refine⟨some a,cap,l,by rw [h1],by rw [h1];exact hlb,by omega,fun b hb=>?_,a.block,a.off,?_,fun i hi=>?_⟩
  ·obtain⟨i,hi,rfl⟩:=Ki hb;exact (h2 i hi).1
  ·by_cases h00:l.length=0
   ·exact .inl h00
   ·right;have hsp:a.spot=none:=by
     have:=(h2 0 (by omega)).2.1;simpa [Addr.add] using this
    obtain⟨b,o,s⟩:=a;dsimp only at hsp;subst hsp;rfl
  ·have hsp:a.spot=none:=by
    have:=(h2 0 (by omega)).2.1;simpa [Addr.add] using this
   obtain⟨b,o,s⟩:=a;dsimp only at hsp;subst hsp;have:=(h2 i hi).2.2;rw [zlG] at this;exact this
end
section
variable {H:Type} {enc:TypeId×Value->H} {P:Program} {w:Wd} {base:Nat} {spare:Nat->Bool} {held:Bool} {fuel F:Nat} {t e:TypeId} {cs:List Value} {x:DataW H×List MemPlace}
theorem zfo {α:Type} {E:Enc α} {p:OA} {l:List α} (h:∃ b o,(l.length=0\/p=some ⟨b,o,none⟩)/\∀ i (hi:i<l.length),b<w.heap.size/\zF w ⟨b,o+i*E.sz,none⟩ (E.enc l[i])):RowB E w.heap.size w p l:=by
 obtain⟨b,o,hp,hc⟩:=h;by_cases h0:l=[]
 ·exact .inl h0
 ·have hl0:0<l.length:=List.length_pos_iff.2 h0;rcases hp with hp | rfl
  ·omega
  ·exact RowB.of_slr (.inr ⟨b,o,rfl,(hc 0 hl0).1,fun i hi=>(hc i hi).2⟩)
end
section
variable {H:Type} {enc:TypeId×Value->H} {w:Wd} {base:Nat} {spare:Nat->Bool} {held:Bool} {F:Nat}
theorem ziF:Opens enc PG w base spare held 53 fun cs=>∃ (r:Bool) (n:UInt8),cs=[.bool r,u8 n]:=fun fuel cs x h=>by
 obtain⟨xs,m,rfl,rfl,hl,hx,hel⟩:=KK Tryz.underlying53 h;rw [cC 53 2 (by kernel_rfl)] at hl;obtain⟨b0,e0⟩:=Opens.field (o:=0) (i:=0) hel hx rfl rfl zud (zmh Tryz.underlying4);obtain⟨b1,e1⟩:=Opens.field (o:=1) (i:=1) hel hx rfl rfl zbf (jM Tryz.underlying5);refine⟨b0,b1,?_⟩;have h0:cs=cs.drop 0:=rfl;have h9:cs.drop 2=[]:=JC (by omega);rw [h0,cut cs 0 1 1 rfl,cut cs 1 1 2 rfl,e0,e1,h9];rfl
theorem zoB:Opens enc PG w base spare held 55 fun cs=>∃ x:InsD,True/\cs=zD.enc x:=fun fuel cs x h=>by
 obtain⟨xs,m,rfl,rfl,hl,hx,hel⟩:=KK Tryz.underlying55 h;rw [cC 55 10 (by kernel_rfl)] at hl;obtain⟨b0,e0⟩:=Opens.field (o:=0) (i:=0) hel hx rfl rfl zbf (jM Tryz.underlying5);obtain⟨b1,e1⟩:=Opens.field (o:=1) (i:=1) hel hx rfl rfl zbf (jM Tryz.underlying5);obtain⟨b2,e2⟩:=Opens.field (o:=2) (i:=2) hel hx rfl rfl zbf (jM Tryz.underlying5);obtain⟨r3,n3,e3⟩:=Opens.field (o:=3) (i:=3) hel hx rfl rfl (cC 53 2 (by kernel_rfl)) ziF;obtain⟨r4,n4,e4⟩:=Opens.field (o:=5) (i:=4) hel hx rfl rfl (cC 53 2 (by kernel_rfl)) ziF;obtain⟨b5,e5⟩:=Opens.field (o:=7) (i:=5) hel hx rfl rfl zbf (jM Tryz.underlying5);obtain⟨b6,e6⟩:=Opens.field (o:=8) (i:=6) hel hx rfl rfl zbf (jM Tryz.underlying5);obtain⟨b7,e7⟩:=Opens.field (o:=9) (i:=7) hel hx rfl rfl zbf (jM Tryz.underlying5);refine⟨⟨b0,b1,b2,r3,n3,r4,n4,b5,b6,b7⟩,trivial,?_⟩;have h0:cs=cs.drop 0:=rfl;have h9:cs.drop 10=[]:=JC (by omega);rw [h0,cut cs 0 1 1 rfl,cut cs 1 1 2 rfl,cut cs 2 1 3 rfl,cut cs 3 2 5 rfl,cut cs 5 2 7 rfl,cut cs 7 1 8 rfl,cut cs 8 1 9 rfl,cut cs 9 1 10 rfl,e0,e1,e2,e3,e4,e5,e6,e7,h9];rfl
theorem zmi:OpensW enc PG w base spare held F 51 fun cs=>∃ x:zmP,(x.1.length<=140737488351232/\RowB zD w.heap.size w x.2.1 x.1)/\cs=zps.enc x:=fun n hn cs x h hw=>by
 obtain⟨p,cap,l,h1,h2,_,_,h3⟩:=zcw (F:=n) (⟨0,0,0,false,0,false,0,0,0,0⟩:InsD) (f:=zD.enc) (Q:=fun _=>True) (sz:=10) (by decide) Tryz.underlying51 (by kernel_rfl) (by kernel_rfl) (zbc zoB) n (QA n) cs x h hw;exact⟨(l,p,cap),⟨h2.1,zfo h3⟩,h1⟩
theorem zhl:∀ F,OpensW enc PG w base spare held F 27 fun cs=>∃ x:Cnd×OA×Nat,KidsV w.heap.size w x.2.1 x.1.kids/\cs=j8 x.1 x.2.1 x.2.2
 | 0=>fun n hn=>Gs hn (Ub _)
 | F+1=>fun n hn cs x h hw=>by
  have ih:=zhl F;have hF:n<=F+1:=by omega
  have hl:cs.length=5:=by
   obtain⟨xs,m,_,_,hl,_,_⟩:=KK Tryz.underlying27 h;rw [cC 27 5 (by kernel_rfl)] at hl;exact hl
  obtain⟨b0,e0⟩:=OpensW.field (F:=F+1) (o:=0) (i:=0) Tryz.underlying27 h hw hF rfl rfl rfl zbf (zbc (jM Tryz.underlying5));obtain⟨b1,e1⟩:=OpensW.field (F:=F+1) (o:=1) (i:=1) Tryz.underlying27 h hw hF rfl rfl rfl zbf (zbc (jM Tryz.underlying5));obtain⟨b2,e2⟩:=OpensW.field (F:=F+1) (o:=2) (i:=2) Tryz.underlying27 h hw hF rfl rfl rfl zbf (zbc (jM Tryz.underlying5));obtain⟨b3,e3⟩:=OpensW.field (F:=F+1) (o:=3) (i:=3) Tryz.underlying27 h hw hF rfl rfl rfl zbf (zbc (jM Tryz.underlying5));obtain⟨p,cap,l,e4,hll,_,hQ,b,o,hp,hc⟩:=OpensW.field (F:=F+1) (o:=4) (i:=4) Tryz.underlying27 h hw hF rfl rfl rfl (cC 25 1 (by kernel_rfl))
   (zcw (F:=F) ((.mk 0 0 0 0 [],none,0):Cnd×OA×Nat) (f:=fun x=>j8 x.1 x.2.1 x.2.2) (Q:=fun x=>KidsV w.heap.size w x.2.1 x.1.kids) (sz:=5) (by decide) Tryz.underlying25 (by kernel_rfl) (by kernel_rfl) ih)
  refine⟨(.mk b0 b1 b2 b3 (l.map (·.1)),p,cap),?_,?_⟩
  ·refine .mk p (l.map (·.1)) (by rw [QN];have:=hll.2;rw [show Tryz.prog.bytesOf 27=32 by kernel_rfl] at this;exact this) b o (by rw [QN];exact hp) (fun i=>(l.getD i (.mk 0 0 0 0 [],none,0)).2.1) (fun i=>(l.getD i (.mk 0 0 0 0 [],none,0)).2.2) (fun i hi=>?_) (fun i hi=>?_)
   ·have hi':i<l.length:=(by rw [QN] at hi;exact hi);have e:l.getD i (.mk 0 0 0 0 [],none,0)=l[i]:=(by rw [gDe,gE hi'];rfl);rw [e,Qq];exact hc i hi'
   ·have hi':i<l.length:=(by rw [QN] at hi;exact hi);have e:l.getD i (.mk 0 0 0 0 [],none,0)=l[i]:=(by rw [gDe,gE hi'];rfl);rw [e,Qq];exact hQ _ (gM hi')
  ·have h0:cs=cs.drop 0:=rfl;have h9:cs.drop 5=[]:=JC (by omega);rw [h0,cut cs 0 1 1 rfl,cut cs 1 1 2 rfl,cut cs 2 1 3 rfl,cut cs 3 1 4 rfl,cut cs 4 1 5 rfl,e0,e1,e2,e3,e4,h9];simp [j8,Cnd.kind,Cnd.thread,Cnd.n,Cnd.val,Cnd.kids]
end
section
variable {H:Type} {enc:TypeId×Value->H} {w:Wd} {base:Nat} {spare:Nat->Bool} {held:Bool} {F:Nat}
theorem zkS:OpensW enc PG w base spare held F 29 fun cs=>∃ p:Prg,PrgX w.heap.size w cs p:=fun n hn cs x h hw=>by
 have hF:n<=n+1:=Nat.le_succ n;have hl:cs.length=10:=by
  obtain⟨xs,m,_,_,hl,_,_⟩:=KK Tryz.underlying29 h;rw [cC 29 10 (by kernel_rfl)] at hl;exact hl
 obtain⟨nm,k0,e0⟩:=OpensW.field (F:=n+1) (o:=0) (i:=0) Tryz.underlying29 h hw hF rfl rfl rfl (cC 9 1 (by kernel_rfl)) (zhk Tryz.underlying9);obtain⟨p1,c1,l1,e1,k1,kc1,q1,r1⟩:=OpensW.field (F:=n+1) (o:=1) (i:=1) Tryz.underlying29 h hw hF rfl rfl rfl (cC 22 1 (by kernel_rfl))
  (zcw (F:=n) ([]:List UInt8) (f:=zkX.enc) (Q:=fun s=>s.length<=140737488351232) (sz:=1) (by decide) Tryz.underlying22 (by kernel_rfl) (by kernel_rfl) (zhk Tryz.underlying9))
 obtain⟨p2,c2,l2,e2,k2,kc2,q2,r2⟩:=OpensW.field (F:=n+1) (o:=2) (i:=2) Tryz.underlying29 h hw hF rfl rfl rfl (cC 23 1 (by kernel_rfl))
  (zcw (F:=n) (0:UInt8) (f:=zV.enc) (Q:=fun _=>True) (sz:=1) (by decide) Tryz.underlying23 zbf (by kernel_rfl) (zbc (fun fuel cs x h=>by
   obtain⟨b,hb⟩:=jM Tryz.underlying5 fuel cs x h;exact⟨b,trivial,hb⟩)))
 obtain⟨p3,c3,l3,e3,k3,kc3,q3,r3⟩:=OpensW.field (F:=n+1) (o:=3) (i:=3) Tryz.underlying29 h hw hF rfl rfl rfl (cC 24 1 (by kernel_rfl))
  (zcw (F:=n) (([],none,0):zmP) (f:=zps.enc) (Q:=fun x=>x.1.length<=140737488351232/\RowB zD w.heap.size w x.2.1 x.1) (sz:=1) (by decide) Tryz.underlying24 (by kernel_rfl) (by kernel_rfl) zmi)
 obtain⟨b4,e4⟩:=OpensW.field (F:=n+1) (o:=4) (i:=4) Tryz.underlying29 h hw hF rfl rfl rfl zbf (zbc (jM Tryz.underlying5));obtain⟨⟨c,p4,c4⟩,hk,e5⟩:=OpensW.field (F:=n+1) (o:=5) (i:=5) Tryz.underlying29 h hw hF rfl rfl rfl (cC 27 5 (by kernel_rfl)) (zhl (n+1));refine⟨⟨nm,l1,l2,l3.map (·.1),b4,c⟩,⟨⟨k0,k1.1,q1,k2.1,by rw [QN];exact k3.1,fun l hl=>?_⟩,p1,c1,p2,c2,p3,c3,p4,c4,?_,zfo r1,zfo r2,⟨l3,rfl,zfo r3,fun x hx=>(q3 x hx).2⟩,hk,kc1⟩,⟨p3,c3,?_,l3,rfl,zfo r3,fun x hx=>⟨(q3 x hx).2,fun hne a ha=>?_⟩⟩,⟨p2,c2,?_,zfo r2⟩⟩
 ·obtain⟨x,hx,rfl⟩:=UL.1 hl;exact (q3 x hx).1
 ·have h0:cs=cs.drop 0:=rfl;have h9:cs.drop 10=[]:=JC (by omega);rw [h0,cut cs 0 1 1 rfl,cut cs 1 1 2 rfl,cut cs 2 1 3 rfl,cut cs 3 1 4 rfl,cut cs 4 1 5 rfl,cut cs 5 5 10 rfl,e0,e1,e2,e3,e4,e5,h9];simp [zag,j8]
 ·have:=Gl (fun l=>l[0]?) e3;simpa using this
 ·have hl:=List.length_pos_iff.2 hne;obtain⟨b,o,e,hb,_⟩:=zgs (q3 x hx).2 hl;rw [ha] at e;obtain rfl:=Uf e;exact hb
 ·have:=Gl (fun l=>l[0]?) e2;simpa using this
theorem zoC {a:Array Value} {d:DataW H} {p:List MemPlace} (h:DataW.Trod enc PG w base spare held 29 (.agg a) d p) (hw:Wgt PG 29 d):∃ p:Prg,PrgX w.heap.size w a.toList p:=by
 obtain⟨fuel,h⟩:=h;exact zkS (F:=fuel+1) fuel (QA _) _ _ h hw
end
section
variable {P:Program} {w:Wd} {base:Nat} {t:TypeId}
theorem zpW {r:Reach} {v:Value} (ht:P.underlying t=some (.int .u16)) (h:Value.okWide P w r base t v):∃ a:Nat,a<65536/\v = .int .u16 (a:Nat):=by
 unfold Value.okWide at h;rw [ht] at h
 cases v with
 | int k n =>
  have h1:k = .u16/\IntKind.has .u16 n:=by
   simp only [Cell.okWide,Cell.ok,ht] at h;obtain⟨rfl,h⟩:=h;exact⟨rfl,h⟩
  obtain⟨rfl,h2⟩:=h1;have h3:0<=n/\n<=65535:=⟨by have:=h2.1;simpa [IntKind.min,IntKind.signed,IntKind.bits] using this,by have:=h2.2;simpa [IntKind.max,IntKind.signed,IntKind.bits] using this⟩;exact⟨n.toNat,by omega,by rw [Int.toNat_of_nonneg h3.1]⟩
 | _=>simp_all [Cell.okWide,Cell.ok]
end
theorem flatMap_map {α:Type} (f:α->Value):∀ l:List (List α),l.flatMap (fun x=>x.map f)=l.flatten.map f
 | []=>rfl
 | a::l=>by rw [KS,flatMap_map f l,List.flatten_cons,QR]
structure GlobP (W:Wd):Prop where
 t32:Tz32M W
 t64:Tz64M W
 needs:GlobC W
abbrev za9 : List (String × DataW Unit) := [("math/bits.deBruijn32tab", Rows.laid_math_bits_deBruijn32tab), ("math/bits.deBruijn64tab", Rows.laid_math_bits_deBruijn64tab), ("seisin/check.needs", Rows.laid_seisin_check_needs)]
theorem zch {W:Wd} (h:laidMetH PG za9 W) (hsh:W.ShapedOpen PG):GlobP W:=by
 have h0:laidMet PG za9 W:=h;have h1:=h0.tail;have h2:=h1.tail;have t32:Tz32M W:=by
  obtain⟨ps,⟨g',t',cs,fuel,p,q,hg',ht',hv,hd,_,_⟩,_⟩:=h0
  obtain rfl := Uf ((show Tryz.prog.globalNamed "math/bits.deBruijn32tab" = some 2 by kernel_rfl).symm.trans hg')
  obtain rfl:=Uf ((show (Tryz.prog.globals[2]?).map (·.type)=some 268 by kernel_rfl).symm.trans ht');obtain⟨bs,h1,h2,h3⟩:=zhm Tryz.underlying268 Tryz.underlying5 (by kernel_rfl) (by kernel_rfl) hd;have hbs:bs=zim:=by
   have e:(Rows.laid_math_bits_deBruijn32tab:DataW Unit) = .agg (zim.map fun b => .lit (.int .u8 b.toNat)):=rfl;exact zht (DataW.agg.inj (h3.symm.trans e))
  subst hbs;refine zaC fun i v hvv=>?_;have hc:=World.var?_cell hg' hv i;rw [<- hvv,<- h2];simpa using hc
 have t64:Tz64M W:=by
  obtain⟨ps,⟨g',t',cs,fuel,p,q,hg',ht',hv,hd,_,_⟩,_⟩:=h1
  obtain rfl := Uf ((show Tryz.prog.globalNamed "math/bits.deBruijn64tab" = some 1 by kernel_rfl).symm.trans hg')
  obtain rfl:=Uf ((show (Tryz.prog.globals[1]?).map (·.type)=some 255 by kernel_rfl).symm.trans ht');obtain⟨bs,h1,h2,h3⟩:=zhm Tryz.underlying255 Tryz.underlying5 (by kernel_rfl) (by kernel_rfl) hd;have hbs:bs=zil:=by
   have e:(Rows.laid_math_bits_deBruijn64tab:DataW Unit) = .agg (zil.map fun b => .lit (.int .u8 b.toNat)):=rfl;exact zht (DataW.agg.inj (h3.symm.trans e))
  subst hbs;refine zaC fun i v hvv=>?_;have hc:=World.var?_cell hg' hv i;rw [<- hvv,<- h2];simpa using hc
 have needs:GlobC W:=by
  obtain⟨ps,⟨g',t',cs,fuel,p,q,hg',ht',hv,hd,_,_⟩,_⟩:=h2
  obtain rfl := Uf ((show Tryz.prog.globalNamed "seisin/check.needs" = some 0 by kernel_rfl).symm.trans hg')
  obtain rfl:=Uf ((show (Tryz.prog.globals[0]?).map (·.type)=some 243 by kernel_rfl).symm.trans ht');obtain⟨bs,h1,h2,h3⟩:=zhm Tryz.underlying243 Tryz.underlying5 (by kernel_rfl) (by kernel_rfl) hd;have hbs:bs=zeQ:=by
   match bs,h1 with
   | [b0,b1,b2,b3,b4,b5,b6,b7,b8],_ =>
    simp only [Rows.laid_seisin_check_needs,UC,UJ,DataW.agg.injEq,QL,DataW.lit.injEq,Lit.int.injEq,true_and,Gk] at h3;simp only [zeQ,QL,Gk];obtain⟨a0,a1,a2,a3,a4,a5,a6,a7,a8⟩:=h3;refine⟨?_,?_,?_,?_,?_,?_,?_,?_,?_⟩ <;> (apply Ug.1;simp;omega)
  subst hbs;refine zaC fun i v hvv=>?_;have hc:=World.var?_cell hg' hv i;rw [<- hvv,<- h2];simpa using hc
 exact⟨t32,t64,needs⟩
def zs2:DataW Unit->List Value
 | .lit (.int k n)=>[.int k n]
 | .lit (.string s)=>[.string ⟨s.toArray⟩]
 | _=>[]
def zs1:DataW Unit->List Value
 | .agg ps=>ps.flatMap zs2
 | x=>zs2 x
def zqa:DataW Unit->List Value
 | .agg ps=>ps.flatMap zs1
 | x=>zs1 x
def zpA (h:Array Obj) (g:Nat) (cs:List Value):Array Obj:=h.modify g fun
 | .cells _ t frozen => .cells cs.toArray t frozen
 | o=>o
def zuI (h:Array Obj):Array Obj :=
 let h1:=zpA h 2 (zqa Rows.laid_math_bits_deBruijn32tab)
 let h2:=zpA h1 1 (zqa Rows.laid_math_bits_deBruijn64tab)
 zpA h2 0 (zqa Rows.laid_seisin_check_needs)
noncomputable def zhx (os:Os):Wd :=
 { World.holding PG os ⟨#[],#[],[]⟩ with heap:=zuI (World.holding PG os ⟨#[],#[],[]⟩).heap }
theorem zhw (os:Os) (args:Array Value):laidMetH PG za9 ((zhx os).forCall (fun _ _=>0) ⟨#[],args,[]⟩).memory:=by
 show laidMet PG za9 _;exact laidMet_of_run' 8 (by kernel_rfl) (by kernel_rfl)
end Go.Proofs.YtkpaomeeknegpaaGreatDoor
