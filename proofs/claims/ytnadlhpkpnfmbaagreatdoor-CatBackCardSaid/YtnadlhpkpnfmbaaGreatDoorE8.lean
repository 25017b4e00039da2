/- Contracts of functions, and plain facts, for the law that the last text of this claim proves. -/
import Derived.Test.YtnadlhpkpnfmbaaGreatDoorE7
import Derived.Test.YtnadlhpkpnfmbaaGreatDoorE2
import Derived.Test.YtnadlhpkpnfmbaaGreatDoorE5
import Derived.Test.YtnadlhpkpnfmbaaGreatDoorE6
set_option linter.unusedSimpArgs false
set_option linter.unusedVariables false
namespace Go.Proofs.YtnadlhpkpnfmbaaGreatDoor
open Go.Vc Go.RowKit Go.Sei
open Go.ChangeShapes Go.WideShapes Go.ChangeAt
section
variable {H:Type} {enc:TypeId×Value->H} {P:Program} {w:Wd} {base:Nat} {spare:Nat->Bool} {held:Bool} {fuel F:Nat} {t e:TypeId} {cs:List Value} {x:DataW H×List MemPlace}
def OpensW (enc:TypeId×Value->H) (P:Program) (w:Wd) (base:Nat) (spare:Nat->Bool) (held:Bool) (F:Nat) (t:TypeId) (R:List Value->Prop):Prop :=
 ∀ n,n<F->∀ cs x,DataW.trod enc P w base spare held n t cs=some x->Wgt P t x.1->R cs
theorem zih {R:List Value->Prop} (h:Opens enc P w base spare held t R):OpensW enc P w base spare held F t R:=fun n _ cs x h1 _=>h n cs x h1
theorem OpensW.field {fs:Array Field} {R:List Value->Prop} (ht:P.underlying t=some (.struct fs)) (h:DataW.trod enc P w base spare held fuel t cs=some x) (hw:Wgt P t x.1) (hF:fuel<=F) {i:Nat} {f:Field} (hf:fs[i]?=some f) {T o k:Nat} (hT:f.type=T) (hO:f.offset=o) (hk:P.cellsOf T=k)
  (ho:OpensW enc P w base spare held F T R):R ((cs.drop o).take k):=by
 subst hT hO hk;obtain⟨xs,n,rfl,rfl,hl,hx,hel⟩:=KK ht h;have h1:=hel i f hf;have hi:i<xs.length:=by rw [hx];exact (Jk.1 hf).1
 rw [gE hi] at h1;refine ho n (by omega) _ _ h1 fun m hm=>hw m ?_;simp only [DataW.weights,ht];refine DataW.weights_mem_each (j:=i) (t:=f.type) (d:=xs[i].1) ?_ ?_ m hm
 ·rw [KU];have:fs.toList[i]?=some f:=by simpa using hf
  rw [this];rfl
 ·rw [KU,gE hi];rfl
theorem zgO (ht:P.underlying t=some .string):OpensW enc P w base spare held F t fun cs=>∃ s:List UInt8,s.length<=140737488351232/\cs=[zn s]:=fun n _ cs x h hw=>by
 obtain⟨s,rfl,rfl,_⟩:=DataW.trod_string ht h;refine⟨s.data.toList,hw _ (by simp [DataW.weights]),?_⟩;unfold zn bs;rw [Array.toArray_toList]
theorem zig {β:Type} (i0:β) {f:β->List Value} {Q:β->Prop} {sz:Nat} (hp:0<sz) (ht:P.underlying t=some (.slice e)) (hc:P.cellsOf e=sz) (hb:Nat.ble 1 (P.bytesOf e)=true) (ho:OpensW enc P w base spare held F e fun cs=>∃ b,Q b/\cs=f b) :
  OpensW enc P w base spare held (F+1) t fun cs=>∃ (p:OA) (cap:Nat) (l:List β),cs=[.slice p l.length cap]/\(l.length<=140737488351232/\l.length*P.bytesOf e<=140737488351232)/\l.length<=cap/\(∀ b∈l,Q b)/\∃ b o,(l.length=0\/p=some ⟨b,o,none⟩)/\∀ i (hi:i<l.length),b<w.heap.size/\zo w ⟨b,o+i*sz,none⟩ (f l[i]):=fun n hn cs x h hw=>by
 rcases DataW.trod_slice ht h with ⟨rfl,_⟩ | ⟨a,len,cap,elems,qB,n,rfl,rfl,hx,_,hlc,hcm,hlen,hel,_,_⟩
 ·exact⟨none,0,[],rfl,⟨by simp,by simp⟩,by simp,by simp,0,0,.inl rfl,fun i hi=>by simp at hi⟩
 ·subst hx;have hw':∀ m,m∈((elems.map (·.1)).length+(qB.map (·.1)).length)*P.bytesOf e::(DataW.weightsAll P e (elems.map (·.1))++DataW.weightsAll P e (qB.map (·.1)))->m<=reachBytes:=fun m hm=>by
   refine hw m ?_;simp only [DataW.weights,ht];exact hm
  have hb:=JS hb;have hlb:len<=140737488351232/\len*P.bytesOf e<=140737488351232:=by
   have h1:=hw' _ Kz;simp only [QQ] at h1;have:elems.length*1<=(elems.length+qB.length)*P.bytesOf e:=Us (Qy _ _) hb;have h2:elems.length*P.bytesOf e<=(elems.length+qB.length)*P.bytesOf e:=Us (Qy _ _) (Gc _);have hr:reachBytes=140737488351232:=rfl;rw [<- hlen];omega
  have each:∀ i,i<len->∃ m:β,Q m/\(a.add (i*sz)).spot=none/\(a.add (i*sz)).block<w.heap.size/\zo w ⟨(a.add (i*sz)).block,(a.add (i*sz)).off,none⟩ (f m):=fun i hi=>by
   have h1:=hel i hi;rw [hc,gE (by omega),Option.bind_eq_some_iff] at h1;obtain⟨cs,h2,h3⟩:=h1;obtain⟨m,hq,rfl⟩:=ho n (by omega) _ _ h3 (zqJ (ds:=elems.map (·.1)) (fun m hm=>hw' m (JW _ (List.mem_append_left _ hm))) _ (Kk (gM _)));exact⟨m,hq,zjn hp h2⟩
  obtain⟨l,h1,h2⟩:=zrl i0 each;refine⟨some a,cap,l,by rw [h1],by rw [h1];exact hlb,by omega,fun b hb=>?_,a.block,a.off,?_,fun i hi=>?_⟩
  ·obtain⟨i,hi,rfl⟩:=Kh hb;exact (h2 i hi).1
  ·by_cases h00:l.length=0
   ·exact .inl h00
   ·right;have hsp:a.spot=none:=by
     have:=(h2 0 (by omega)).2.1;simpa [Addr.add] using this
    obtain⟨b,o,s⟩:=a;dsimp only at hsp;subst hsp;rfl
  ·have hsp:a.spot=none:=by
    have:=(h2 0 (by omega)).2.1;simpa [Addr.add] using this
   obtain⟨b,o,s⟩:=a;dsimp only at hsp;subst hsp;have:=(h2 i hi).2.2;rw [zkX] at this;exact this
end
section
variable {H:Type} {enc:TypeId×Value->H} {w:Wd} {base:Nat} {spare:Nat->Bool} {held:Bool} {F:Nat}
theorem zgN:∀ F,OpensW enc PG w base spare held F 24 fun cs=>∃ x:Trm×OA×Nat,(x.1.name.length<=140737488351232/\KidsT (fun _=>True) w x.2.1 x.1.kids)/\cs=zd x.1 x.2.1 x.2.2
 | 0=>fun n hn=>Gy hn (Nat.not_lt_zero _)
 | F+1=>fun n hn cs x h hw=>by
  have ih:=zgN F;have hF:n<=F+1:=by omega
  have hl:cs.length=3:=by
   obtain⟨xs,m,_,_,hl,_,_⟩:=KK Tryz.underlying24 h;rw [cC 24 3 (by kernel_rfl)] at hl;exact hl
  obtain⟨b0,e0⟩:=OpensW.field (F:=F+1) (o:=0) (i:=0) Tryz.underlying24 h hw hF rfl rfl rfl zqf (zih (zkc Tryz.underlying5));obtain⟨nq,k1,e1⟩:=OpensW.field (F:=F+1) (o:=1) (i:=1) Tryz.underlying24 h hw hF rfl rfl rfl (cC 9 1 (by kernel_rfl)) (zgO Tryz.underlying9);obtain⟨p,cap,l,e2,hll,_,hQ,b,o,hp,hc⟩:=OpensW.field (F:=F+1) (o:=2) (i:=2) Tryz.underlying24 h hw hF rfl rfl rfl (cC 22 1 (by kernel_rfl))
   (zig (F:=F) ((.mk 0 [] [],none,0):Trm×OA×Nat) (f:=fun x=>zd x.1 x.2.1 x.2.2) (Q:=fun x=>x.1.name.length<=140737488351232/\KidsT (fun _=>True) w x.2.1 x.1.kids) (sz:=3) (by decide) Tryz.underlying22 (by kernel_rfl) (by kernel_rfl) ih)
  have at_:∀ i (hi:i<l.length),l.getD i (.mk 0 [] [],none,0)=l[i]:=fun i hi=>by rw [gDe,gE hi];rfl
  refine⟨(.mk b0 nq (l.map (·.1)),p,cap),⟨k1,?_⟩,?_⟩
  ·refine .mk p (l.map (·.1)) (by rw [QQ];exact hll.1) b o (by rw [QQ];exact hp) (fun i=>(l.getD i (.mk 0 [] [],none,0)).2.1) (fun i=>(l.getD i (.mk 0 [] [],none,0)).2.2) (fun i hi=>?_) (fun i hi=>?_)
   ·have hi':i<l.length:=(by rw [QQ] at hi;exact hi);rw [at_ i hi',Qr];exact⟨(hQ _ (gM hi')).1,trivial,(hc i hi').2⟩
   ·have hi':i<l.length:=(by rw [QQ] at hi;exact hi);rw [at_ i hi',Qr];exact (hQ _ (gM hi')).2
  ·have h0:cs=cs.drop 0:=rfl;have h9:cs.drop 3=[]:=JA (by omega);rw [h0,cut cs 0 1 1 rfl,cut cs 1 1 2 rfl,cut cs 2 1 3 rfl,e0,e1,e2,h9];simp [zd,Trm.kind,Trm.name,Trm.kids]
end
section
variable {H:Type} {enc:TypeId×Value->H} {w:Wd} {base:Nat} {spare:Nat->Bool} {held:Bool} {F:Nat}
theorem zlz:OpensW enc PG w base spare held F 49 fun cs=>∃ x:zcc,(x.1.kind<=255/\x.1.name.length<=140737488351232/\x.1.term.name.length<=140737488351232/\KidsT jL w x.2.1 x.1.term.kids)/\cs=zg3.enc x:=fun n hn cs x h hw=>by
 have hl:cs.length=5:=by
  obtain⟨xs,m,_,_,hl,_,_⟩:=KK Tryz.underlying49 h;rw [cC 49 5 (by kernel_rfl)] at hl;exact hl
 obtain⟨b0,e0⟩:=OpensW.field (F:=F) (o:=0) (i:=0) Tryz.underlying49 h hw (US hn) rfl rfl rfl zqf (zih (zkc Tryz.underlying5));obtain⟨nq,k1,e1⟩:=OpensW.field (F:=F) (o:=1) (i:=1) Tryz.underlying49 h hw (US hn) rfl rfl rfl (cC 9 1 (by kernel_rfl)) (zgO Tryz.underlying9);obtain⟨y,hy,e2⟩:=OpensW.field (F:=F) (o:=2) (i:=2) Tryz.underlying49 h hw (US hn) rfl rfl rfl (cC 24 3 (by kernel_rfl)) (zgN F);refine⟨(⟨b0.toNat,nq,y.1⟩,y.2.1,y.2.2),⟨by have:=b0.toNat_lt;show b0.toNat<=255;omega,k1,hy.1,hy.2⟩,?_⟩;have h0:cs=cs.drop 0:=rfl;have h9:cs.drop 5=[]:=JA (by omega);rw [h0,cut cs 0 1 1 rfl,cut cs 1 1 2 rfl,cut cs 2 3 5 rfl,e0,e1,e2,h9];rfl
theorem znQ {a:Array Value} {d:DataW H} {p:List MemPlace} (h:DataW.Trod enc PG w base spare held 47 (.agg a) d p) (hw:Wgt PG 47 d):∃ (ls:List LineD) (q:OA) (c:Nat),Value.agg a = .agg #[.slice q ls.length c]/\LinsM jL w q ls/\ls.length<=140737488351232/\(q=none->c=0):=by
 obtain⟨fuel,h⟩:=h;have h:DataW.trod enc PG w base spare held fuel 47 a.toList=some (d,p):=h;have hl:a.toList.length=1:=by
  obtain⟨xs,m,_,_,hl,_,_⟩:=KK Tryz.underlying47 h;rw [cC 47 1 (by kernel_rfl)] at hl;exact hl
 obtain⟨⟨q,cap,l,e2,hll,_,hQ,b,o,hp,hc⟩,hnone⟩:=OpensW.field (F:=fuel+1) (o:=0) (i:=0) (R:=fun cs=>(∃ (p:OA) (cap:Nat) (l:List zcc),cs=[.slice p l.length cap]/\(l.length<=140737488351232/\l.length*Tryz.prog.bytesOf 49<=140737488351232)/\l.length<=cap/\(∀ b∈l,b.1.kind<=255/\b.1.name.length<=140737488351232/\b.1.term.name.length<=140737488351232/\KidsT jL w b.2.1 b.1.term.kids)/\∃ b o,(l.length=0\/p=some ⟨b,o,none⟩)/\∀ i (hi:i<l.length),b<w.heap.size/\zo w ⟨b,o+i*5,none⟩ (zg3.enc l[i]))/\∀ n c,cs=[.slice none n c]->c=0)
  Tryz.underlying47 h hw (Nat.le_succ _) rfl rfl rfl (cC 45 1 (by kernel_rfl)) (fun n hn cs x h hw =>
   ⟨zig (F:=fuel) ((⟨0,[],.mk 0 [] []⟩,none,0):zcc) (f:=zg3.enc) (Q:=fun b=>b.1.kind<=255/\b.1.name.length<=140737488351232/\b.1.term.name.length<=140737488351232/\KidsT jL w b.2.1 b.1.term.kids) (sz:=5) (by decide) Tryz.underlying45 (by kernel_rfl) (by kernel_rfl) zlz n hn cs x h hw,fun m c e=>by
    rcases DataW.trod_slice Tryz.underlying45 h with ⟨e3,_⟩ | ⟨a,len,cap,elems,qB,n,_,e3,_⟩
    ·rw [e] at e3;simp only [QN,Qb,Gp,Gt] at e3;exact e3.2
    ·rw [e] at e3;simp at e3⟩)
 have e0:a.toList=[.slice q l.length cap]:=by
  have:(a.toList.drop 0).take 1=a.toList:=by rw [Uo,JE (by omega)]
  rw [<- this];exact e2
 refine⟨l.map (·.1),q,cap,?_,⟨l,rfl,?_,fun z hz=>hQ z hz,fun _ _ _=>trivial⟩,by rw [QQ];exact hll.1,fun e=>hnone l.length cap (by rw [e2,e])⟩
 ·rw [QQ];congr 1;rw [<- Qf,e0]
 ·by_cases h0:l=[]
  ·exact .inl h0
  ·have hl0:0<l.length:=List.length_pos_iff.2 h0;have hq:q=some ⟨b,o,none⟩:=by rcases hp with h | h;omega;exact h
   exact .inr ⟨b,o,hq,(hc 0 hl0).1,fun i hi=>(hc i hi).2⟩
end
theorem zti {W:Wd} (hsh:W.ShapedOpen PG):∃ m,W.cell? ⟨5,0,none⟩=some (.int .i64 m) :=
 cell_of_shapedOpen_int (zero := #[.int .i64 0]) (t:=3) hsh (dT (by kernel_rfl)) (by kernel_rfl) rfl (by kernel_rfl) (by kernel_rfl) Tryz.underlying3
structure GlobL11b (W:Wd):Prop where
 t32:Tz32M W
 t64:Tz64M W
 acc:True
 needs:GlobC W
 cnd:zo W ⟨0,0,none⟩ (zeE.map i64)
 cst:zo W ⟨1,0,none⟩ (zoN.map i64)
 csg:zo W ⟨2,0,none⟩ (jz.map zn)
 cop:zo W ⟨3,0,none⟩ (zS.map zn)
 u8f:True
abbrev jC : List (String × DataW Unit) := [("math/bits.deBruijn32tab", Rows.laid_math_bits_deBruijn32tab), ("math/bits.deBruijn64tab", Rows.laid_math_bits_deBruijn64tab), ("unicode/utf8.acceptRanges", Rows.laid_unicode_utf8_acceptRanges), ("seisin/check.needs", Rows.laid_seisin_check_needs), ("seisin/cat.needs", Rows.laid_seisin_cat_needs), ("seisin/cat.strength", Rows.laid_seisin_cat_strength), ("seisin/cat.signs", Rows.laid_seisin_cat_signs), ("seisin/cat.openers", Rows.laid_seisin_cat_openers), ("unicode/utf8.first", Rows.laid_unicode_utf8_first)]
theorem qu {W:Wd} (h:laidMetH PG jC W) (hsh:W.ShapedOpen PG):GlobL11b W:=by
 have h0:laidMet PG jC W:=h;have h1:=h0.tail;have h2:=h1.tail;have h3:=h2.tail;have h4:=h3.tail;have h5:=h4.tail;have h6:=h5.tail;have h7:=h6.tail;have h8:=h7.tail;have t32:Tz32M W:=by
  obtain⟨ps,⟨g',t',cs,fuel,p,q,hg',ht',hv,hd,_,_⟩,_⟩:=h0
  obtain rfl := Ug ((show Tryz.prog.globalNamed "math/bits.deBruijn32tab" = some 9 by kernel_rfl).symm.trans hg')
  obtain rfl:=Ug ((show (Tryz.prog.globals[9]?).map (·.type)=some 369 by kernel_rfl).symm.trans ht');obtain⟨bs,h1,h2,h3⟩:=zgP Tryz.underlying369 Tryz.underlying5 (by kernel_rfl) (by kernel_rfl) hd;have hbs:bs=zhV:=by
   have e:(Rows.laid_math_bits_deBruijn32tab:DataW Unit) = .agg (zhV.map fun b => .lit (.int .u8 b.toNat)):=rfl;exact zg0 (UA (h3.symm.trans e))
  subst hbs;refine qt fun i v hvv=>?_;have hc:=Ui hg' hv i;rw [<- hvv,<- h2];simpa using hc
 have t64:Tz64M W:=by
  obtain⟨ps,⟨g',t',cs,fuel,p,q,hg',ht',hv,hd,_,_⟩,_⟩:=h1
  obtain rfl := Ug ((show Tryz.prog.globalNamed "math/bits.deBruijn64tab" = some 4 by kernel_rfl).symm.trans hg')
  obtain rfl:=Ug ((show (Tryz.prog.globals[4]?).map (·.type)=some 299 by kernel_rfl).symm.trans ht');obtain⟨bs,h1,h2,h3⟩:=zgP Tryz.underlying299 Tryz.underlying5 (by kernel_rfl) (by kernel_rfl) hd;have hbs:bs=zhU:=by
   have e:(Rows.laid_math_bits_deBruijn64tab:DataW Unit) = .agg (zhU.map fun b => .lit (.int .u8 b.toNat)):=rfl;exact zg0 (UA (h3.symm.trans e))
  subst hbs;refine qt fun i v hvv=>?_;have hc:=Ui hg' hv i;rw [<- hvv,<- h2];simpa using hc
 have acc:True:=trivial;have needs:GlobC W:=by
  obtain⟨ps,⟨g',t',cs,fuel,p,q,hg',ht',hv,hd,_,_⟩,_⟩:=h3
  obtain rfl := Ug ((show Tryz.prog.globalNamed "seisin/check.needs" = some 8 by kernel_rfl).symm.trans hg')
  obtain rfl:=Ug ((show (Tryz.prog.globals[8]?).map (·.type)=some 359 by kernel_rfl).symm.trans ht');obtain⟨bs,h1,h2,h3⟩:=zgP Tryz.underlying359 Tryz.underlying5 (by kernel_rfl) (by kernel_rfl) hd;have hbs:bs=zeF:=by
   match bs,h1 with
   | [b0,b1,b2,b3,b4,b5,b6,b7,b8],_ =>
    simp only [Rows.laid_seisin_check_needs,UE,UM,DataW.agg.injEq,QN,QJ,UG,Gt,Gp] at h3;simp only [zeF,QN,Gp];obtain⟨a0,a1,a2,a3,a4,a5,a6,a7,a8⟩:=h3;refine⟨?_,?_,?_,?_,?_,?_,?_,?_,?_⟩ <;> (apply Uh.1;simp;omega)
  subst hbs;refine qt fun i v hvv=>?_;have hc:=Ui hg' hv i;rw [<- hvv,<- h2];simpa using hc
 have cnd:zo W ⟨0,0,none⟩ (zeE.map i64):=by
  obtain⟨ps,⟨g',t',cs,fuel,p,q,hg',ht',hv,hd,_,_⟩,_⟩:=h4
  obtain rfl := Ug ((show Tryz.prog.globalNamed "seisin/cat.needs" = some 0 by kernel_rfl).symm.trans hg')
  obtain rfl:=Ug ((show (Tryz.prog.globals[0]?).map (·.type)=some 180 by kernel_rfl).symm.trans ht');obtain⟨bs,h1,h2,h3⟩:=zmI Tryz.underlying180 Tryz.underlying3 (by kernel_rfl) (by kernel_rfl) hd;have hbs:bs=zeE:=by
   match bs,h1 with
   | [b0,b1,b2,b3,b4,b5,b6,b7,b8,b9],_ =>
    simp only [Rows.laid_seisin_cat_needs,UE,UM,DataW.agg.injEq,QN,QJ,UG,Gt,Gp] at h3;simp only [zeE,QN,Gp];obtain⟨a0,a1,a2,a3,a4,a5,a6,a7,a8,a9⟩:=h3;exact⟨a0.symm,a1.symm,a2.symm,a3.symm,a4.symm,a5.symm,a6.symm,a7.symm,a8.symm,a9.symm⟩
  subst hbs;refine qt fun i v hvv=>?_;have hc:=Ui hg' hv i;rw [<- hvv,<- h2];simpa using hc
 have cst:zo W ⟨1,0,none⟩ (zoN.map i64):=by
  obtain⟨ps,⟨g',t',cs,fuel,p,q,hg',ht',hv,hd,_,_⟩,_⟩:=h5
  obtain rfl := Ug ((show Tryz.prog.globalNamed "seisin/cat.strength" = some 1 by kernel_rfl).symm.trans hg')
  obtain rfl:=Ug ((show (Tryz.prog.globals[1]?).map (·.type)=some 180 by kernel_rfl).symm.trans ht');obtain⟨bs,h1,h2,h3⟩:=zmI Tryz.underlying180 Tryz.underlying3 (by kernel_rfl) (by kernel_rfl) hd;have hbs:bs=zoN:=by
   match bs,h1 with
   | [b0,b1,b2,b3,b4,b5,b6,b7,b8,b9],_ =>
    simp only [Rows.laid_seisin_cat_strength,UE,UM,DataW.agg.injEq,QN,QJ,UG,Gt,Gp] at h3;simp only [zoN,QN,Gp];obtain⟨a0,a1,a2,a3,a4,a5,a6,a7,a8,a9⟩:=h3;exact⟨a0.symm,a1.symm,a2.symm,a3.symm,a4.symm,a5.symm,a6.symm,a7.symm,a8.symm,a9.symm⟩
  subst hbs;refine qt fun i v hvv=>?_;have hc:=Ui hg' hv i;rw [<- hvv,<- h2];simpa using hc
 have csg:zo W ⟨2,0,none⟩ (jz.map zn):=by
  obtain⟨ps,⟨g',t',cs,fuel,p,q,hg',ht',hv,hd,_,_⟩,_⟩:=h6
  obtain rfl := Ug ((show Tryz.prog.globalNamed "seisin/cat.signs" = some 2 by kernel_rfl).symm.trans hg')
  obtain rfl:=Ug ((show (Tryz.prog.globals[2]?).map (·.type)=some 185 by kernel_rfl).symm.trans ht');obtain⟨bs,h1,h2,h3⟩:=zgQ Tryz.underlying185 Tryz.underlying9 (by kernel_rfl) (by kernel_rfl) hd;have hbs:bs=jz:=zgv (UA ((show (DataW.agg (jz.map fun b => .lit (.string b)):DataW Unit)=_ from h3).symm.trans rfl).symm) |>.symm;subst hbs;refine qt fun i v hvv=>?_;have hc:=Ui hg' hv i;rw [<- hvv,<- h2];simpa using hc
 have cop:zo W ⟨3,0,none⟩ (zS.map zn):=by
  obtain⟨ps,⟨g',t',cs,fuel,p,q,hg',ht',hv,hd,_,_⟩,_⟩:=h7
  obtain rfl := Ug ((show Tryz.prog.globalNamed "seisin/cat.openers" = some 3 by kernel_rfl).symm.trans hg')
  obtain rfl:=Ug ((show (Tryz.prog.globals[3]?).map (·.type)=some 67 by kernel_rfl).symm.trans ht');obtain⟨bs,h1,h2,h3⟩:=zgQ Tryz.underlying67 Tryz.underlying9 (by kernel_rfl) (by kernel_rfl) hd;have hbs:bs=zS:=zgv (UA ((show (DataW.agg (zS.map fun b => .lit (.string b)):DataW Unit)=_ from h3).symm.trans rfl).symm) |>.symm;subst hbs;refine qt fun i v hvv=>?_;have hc:=Ui hg' hv i;rw [<- hvv,<- h2];simpa using hc
 have u8f:True:=trivial;exact⟨t32,t64,acc,needs,cnd,cst,csg,cop,u8f⟩
def zkp:DataW Unit->List Value
 | .lit (.int k n)=>[.int k n]
 | .lit (.string s)=>[.string ⟨s.toArray⟩]
 | _=>[]
def zko:DataW Unit->List Value
 | .agg ps=>ps.flatMap zkp
 | x=>zkp x
def zaJ:DataW Unit->List Value
 | .agg ps=>ps.flatMap zko
 | x=>zko x
def zaE (h:Array Obj) (g:Nat) (cs:List Value):Array Obj:=h.modify g fun
 | .cells _ t frozen => .cells cs.toArray t frozen
 | o=>o
def zpD (h:Array Obj):Array Obj :=
 let h1:=zaE h 9 (zaJ Rows.laid_math_bits_deBruijn32tab)
 let h2:=zaE h1 4 (zaJ Rows.laid_math_bits_deBruijn64tab)
 let h3:=zaE h2 7 (zaJ Rows.laid_unicode_utf8_acceptRanges)
 let h4:=zaE h3 8 (zaJ Rows.laid_seisin_check_needs)
 let h5:=zaE h4 0 (zaJ Rows.laid_seisin_cat_needs)
 let h6:=zaE h5 1 (zaJ Rows.laid_seisin_cat_strength)
 let h7:=zaE h6 2 (zaJ Rows.laid_seisin_cat_signs)
 let h8:=zaE h7 3 (zaJ Rows.laid_seisin_cat_openers)
 zaE h8 6 (zaJ Rows.laid_unicode_utf8_first)
noncomputable def zdM (os:Os):Wd :=
 { World.holding PG os ⟨#[],#[],[]⟩ with heap:=zpD (World.holding PG os ⟨#[],#[],[]⟩).heap }
theorem zeQ (os:Os) (args:Array Value):laidMetH PG jC ((zdM os).forCall (fun _ _=>0) ⟨#[],args,[]⟩).memory:=by
 show laidMet PG jC _;exact laidMet_of_run' 8 (by kernel_rfl) (by kernel_rfl)
end Go.Proofs.YtnadlhpkpnfmbaaGreatDoor
