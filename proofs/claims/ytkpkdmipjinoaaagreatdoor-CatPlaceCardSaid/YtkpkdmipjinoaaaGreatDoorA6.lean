/- Contracts of functions, and plain facts, for the law that the last text of this claim proves. -/
import Derived.Test.YtkpkdmipjinoaaaGreatDoorA5
import Derived.Test.YtkpkdmipjinoaaaGreatDoorA1
import Derived.Test.YtkpkdmipjinoaaaGreatDoorA3
import Derived.Test.YtkpkdmipjinoaaaGreatDoorA2
import Derived.Test.YtkpkdmipjinoaaaGreatDoorA4
import Derived.Lib.AppendStr
set_option linter.unusedSimpArgs false
set_option linter.unusedVariables false
namespace Go.Proofs.YtkpkdmipjinoaaaGreatDoor
open Go.Vc Go.RowKit Go.Sei
theorem zhG (l:Bs) (c:UInt8):decide ((0:Int)<=Lib.indexByte l c)=decide (c∈l):=by
 have low:∀ l:Bs,-1<=Lib.indexByte l c:=fun l=>by
  induction l with
  | nil=>exact Int.le_refl _
  | cons b r ih =>
   unfold Lib.indexByte
   split
   ·omega
   ·split <;> omega
 rw [decide_eq_decide]
 induction l with
 | nil=>exact⟨fun h=>absurd h (by unfold Lib.indexByte;decide),fun h=>by cases h⟩
 | cons b r ih =>
  unfold Lib.indexByte;by_cases hb:b=c
  ·subst hb;rw [if_pos (by simp)];exact⟨fun _=>List.mem_cons_self,fun _=>Int.le_refl _⟩
  ·rw [if_neg (by simpa using hb)];have hl:=low r;by_cases h1:Lib.indexByte r c = -1
   ·rw [if_pos (by simpa using h1)];refine⟨fun h=>absurd h (by decide),fun h=>?_⟩;rcases List.mem_cons.1 h with h | h
    ·exact absurd h.symm hb
    ·have:=ih.2 h;omega
   ·rw [if_neg (by simpa using h1)];refine⟨fun _=>List.mem_cons_of_mem _ (ih.1 (by omega)),fun _=>by omega⟩
theorem preB (s:Bs) (a:Nat):Lib.hasPrefix (s.drop a) [94,45,49]=decide ((s.drop a).take 3=[94,45,49]):=by
 unfold Lib.hasPrefix;rw [Bool.eq_iff_iff,List.isPrefixOf_iff_prefix,dE,List.prefix_iff_eq_take];exact eq_comm
theorem zl2 {s:Bs} {a:Nat} (h:a<=s.length):zcZ s a<=s.length:=by
 unfold zcZ
 split
 ·exact zef (zef h)
 ·exact zef h
theorem zlQ {s:Bs} {a:Nat} (h:a<=s.length):(zcq s a).at_+(zcq s a).text.length<=s.length:=by
 have sh:∀ {k:Nat} {t:Bs} {a:Nat},a+t.length<=s.length->(zcb k t a).at_+(zcb k t a).text.length<=s.length:=fun {k t a} h=>by
  unfold zcb
  split
  ·show a+0<=_;omega
  ·exact h
 have rl:∀ {p:UInt8->Bool},a+(runL p s a).length<=s.length:=fun {p}=>zef h;unfold zcq
 split
 ·exact h
 ·rename_i c hc;have hl:=(List.getElem?_eq_some_iff.1 hc).1
  split
  ·show a+1<=_;omega
  ·split
   ·split
    ·exact rl
    ·exact sh rl
   ·split
    ·exact sh rl
    ·split
     ·show a+1<=_;omega
     ·split
      ·rename_i h3;have:=congrArg List.length h3;rw [List.length_take,List.length_drop] at this;show a+3<=_;simp at this;omega
      ·exact h
theorem zoe {s:Bs} {a:Nat} (h:a<=s.length):(zaw s a).at_+(zaw s a).text.length<=s.length:=zlQ (zl2 h)
theorem zfa (s:Bs) (a b:Nat):(bs s).extract a b=bs ((s.drop a).take (b-a)):=by
 have:((bs s).extract a b).data.toList=(s.drop a).take (b-a):=by
  simp [bs]
 have h2:(bs ((s.drop a).take (b-a))).data.toList=(s.drop a).take (b-a):=rfl;exact congrArg (fun l:List UInt8=>(⟨⟨l⟩⟩:ByteArray)) (this.trans h2.symm)
section
variable {s:Bs} {a:Nat} {w:World}
theorem zpT (hg:GlobK w) (ha:a<=s.length) (hs:s.length<=140737488351232):CB 101 #[strV s,i64 (a:Nat)] w (.agg (zaR (zaw s a)).toArray):=by
 refine cofM 90 [strV s,i64 (a:Nat)] (.c .p (.s .p (.c .p .p))) Tryz.func101 ?_;refine⟨Unit,fun _=>⟨[(0,strV s),(1,i64 (a:Nat)),(4,At0 w.heap.size)],[]⟩,fun _ X=>X.heap[w.heap.size]?=some (.cells #[.int .u8 0,strV [],i64 0] 106 (0,0))/\Bw w X,⟨(),(cvE rfl rfl),hnew w _,zba _ _⟩,?_⟩;rintro _ X ⟨f0,b0⟩;have gX:=hg.below b0;refine cmo (zma s a ha hs X) ?_;rintro e _ ⟨rfl,rfl⟩;have h1:=zef (p:=zaY) ha;obtain⟨k,hk⟩:=nm (zcZ s a);have hkl:k<=s.length:=by rw [hk];exact zl2 ha
 refine⟨Unit,fun _=>⟨[(0,strV s),(1,i64 (k:Nat)),(4,.pointer (some ⟨w.heap.size,0,none⟩))],[]⟩,fun _ Y=>X=Y,?_,?_⟩
 ·have no:∀ {n:Nat},n=runE zaY s a->s[n]?≠some 35->n=k:=fun {n} e h=>by
   rw [hk,e];unfold zcZ;rw [if_neg (by rw [<- e];exact h)]
  refine biE (fun hc=>?_) fun hc=>?_
  ·have hc:(runE zaY s a:Int)<(s.length:Int):=dT hc;have hl:runE zaY s a<s.length:=by omega
   refine⟨runE zaY s a,rfl,hl,s[runE zaY s a],zfI hl,?_⟩;refine biE (fun h2=>?_) fun h2=>?_
   ·have h2:s[runE zaY s a]=35:=dT ((zcO _ 35).symm.trans h2);refine cmo (zog s (runE zaY s a) h1 hs X) ?_;rintro e _ ⟨rfl,rfl⟩;have e:runE zfS s (runE zaY s a)=k:=by
     rw [hk];unfold zcZ;rw [if_pos (by rw [gE hl,h2])]
    exact⟨(),⟨.cons rfl (.cons (congrArg (fun n:Nat=>some (i64 (n:Nat))) e) (.cons rfl .nil)),rfl⟩,rfl⟩
   ·have h2:s[runE zaY s a]≠35:=dF ((zcO _ 35).symm.trans h2);have e:=no rfl (by rw [gE hl];intro e;exact h2 (Option.some.inj e));exact⟨(),⟨.cons rfl (.cons (congrArg (fun n:Nat=>some (i64 (n:Nat))) e) (.cons rfl .nil)),rfl⟩,rfl⟩
  ·have hc:¬ (runE zaY s a:Int)<(s.length:Int):=dF hc;refine brF ?_;have e:=no rfl (by rw [List.getElem?_eq_none (by omega)];exact fun h=>by cases h);exact⟨(),⟨.cons rfl (.cons (congrArg (fun n:Nat=>some (i64 (n:Nat))) e) (.cons rfl .nil)),rfl⟩,rfl⟩
 rintro _ _ rfl;have es:zaw s a=zcq s k:=by rw [hk];rfl
 rw [es];clear es hk h1;have fin:∀ {T:Tk} {Z:World} {K:World->Prop},Bw X Z->(∀ Y,Bw w Y->Y.heap[w.heap.size]?=some (.cells (zaR T).toArray 106 (0,0))->K Y)->SatR ((storeVar 106 ⟨w.heap.size,0,none⟩ (.agg (zaR T).toArray)).run Tryz.prog Z) fun _ w'=>K w' :=
  fun {T Z K} hb k=>zas k106 (zab hb f0) rfl rfl rfl (k _ (zaj ((zst b0 hb)) (Nat.le_refl _) _) (zan (zab hb f0)))
 have out:∀ {T:Tk} {Y:World},Bw w Y->Y.heap[w.heap.size]?=some (.cells (zaR T).toArray 106 (0,0))->T=zcq s k->∃ us:List Value,us.length=3/\zav Y ⟨w.heap.size,0,none⟩ us/\Ending.returned (zcr [.agg us.toArray]) = .returned (.agg (zaR (zcq s k)).toArray)/\Bw w Y :=
  fun {T Y} hb f e=>⟨zaR T,rfl,zaa f,by rw [e];rfl,hb⟩
 refine biE (fun hc=>?_) fun hc=>?_
 ·have hc:(k:Int)=(s.length:Int):=dT hc;refine⟨zaR ⟨1,[],k⟩,rfl,?_⟩;refine fin (T:=⟨1,[],k⟩) (Below.refl _ _) fun Y hb f=>?_;refine out hb f ?_;unfold zcq;rw [List.getElem?_eq_none (by omega)]
 have hc:¬ (k:Int)=(s.length:Int):=dF hc;have hl:k<s.length:=by omega
 refine⟨k,rfl,hl,s[k],zfI hl,?_⟩;obtain⟨c,hcc⟩:=nm (s[k]);rw [<- hcc];have ek:s[k]?=some c:=by rw [gE hl,hcc]
 have ew:((k+1:Nat):Int)=(k:Int)+1:=by omega
 have cut1:(s.drop k).take 1=[c]:=by rw [List.drop_eq_getElem_cons hl,hcc];rfl
 have hcut1:(bs s).extract k (k+1)=bs [c]:=by rw [zfa,Nat.add_sub_cancel_left,cut1]
 refine biE (fun h10=>?_) fun h10=>?_
 ·have h10:c=10:=dT ((zcO c 10).symm.trans h10);have e:zcq s k=⟨2,[c],k⟩:=by unfold zcq;rw [ek];simp only [if_pos h10]
  refine⟨(k+1:Nat),(zai (by omega)).trans ew.symm,?_⟩;refine⟨k+1,rfl,hl,k,rfl,by omega,?_⟩;refine⟨zaR ⟨2,[c],k⟩,by rw [hcut1];rfl,?_⟩;refine fin (T:=⟨2,[c],k⟩) (Below.refl _ _) fun Y hb f=>?_;exact out hb f e.symm
 have h10:c≠10:=dF ((zcO c 10).symm.trans h10);refine cmo (zhA c X) ?_;rintro e _ ⟨rfl,rfl⟩;refine biE (fun hlo=>?_) fun hlo=>?_
 ·have hlo:zcs c=true:=hlo;refine cmo (zig s k hkl hs X) ?_;rintro e _ ⟨rfl,rfl⟩;have hr:=zef (p:=za7) hkl;refine⟨runE za7 s k,rfl,hr,k,rfl,zj5,?_⟩;have hcut:strV (runL za7 s k) = .string ((bs s).extract k (runE za7 s k)):=by rw [zfa,zj4];rfl
  have hik:=zmY (runL za7 s k) X gX;rw [hcut] at hik;refine cmo hik ?_;rintro e _ ⟨rfl,rfl⟩;refine biE (fun hk=>?_) fun hk=>?_
  ·have hk:keyB (runL za7 s k)=true:=hk;refine⟨zaR ⟨3,runL za7 s k,k⟩,by rw [<- hcut];rfl,?_⟩;refine fin (T:=⟨3,runL za7 s k,k⟩) (Below.refl _ _) fun Y hb f=>?_;refine out hb f ?_;unfold zcq;rw [ek];simp only [if_neg h10,if_pos hlo,if_pos hk]
  ·have hk:keyB (runL za7 s k)=false:=hk;have hsh:=zjZ 4 (runL za7 s k) k X;rw [hcut] at hsh;refine cmo hsh ?_;rintro e Z ⟨rfl,hbZ⟩;refine fin (T:=zcb 4 (runL za7 s k) k) hbZ fun Y hb f=>?_;refine out hb f ?_;unfold zcq;rw [ek];simp only [if_neg h10,if_pos hlo,hk,Bool.false_eq_true,if_false]
 have hlo:zcs c=false:=hlo;refine cmo (zjV c X) ?_;rintro e _ ⟨rfl,rfl⟩;refine biE (fun hup=>?_) fun hup=>?_
 ·have hup:zbu c=true:=hup;refine cmo (zl8 s k hkl hs X) ?_;rintro e _ ⟨rfl,rfl⟩;have hr:=zef (p:=zbu) hkl;refine⟨runE zbu s k,rfl,hr,k,rfl,zj5,?_⟩;have hcut:strV (runL zbu s k) = .string ((bs s).extract k (runE zbu s k)):=by rw [zfa,zj4];rfl
  have hsh:=zjZ 5 (runL zbu s k) k X;rw [hcut] at hsh;refine cmo hsh ?_;rintro e Z ⟨rfl,hbZ⟩;refine fin (T:=zcb 5 (runL zbu s k) k) hbZ fun Y hb f=>?_;refine out hb f ?_;unfold zcq;rw [ek];simp only [if_neg h10,hlo,hup,Bool.false_eq_true,if_false,if_true]
 have hup:zbu c=false:=hup;refine cmo (Tryz.strings_IndexByte (bs zl4) (c.toNat:Int) X) ?_;rintro e X' ⟨rfl,hx'⟩;have hx':=hx'.symm;subst hx';have ec:((c.toNat:Int).toNat.toUInt8)=c:=by rw [Int.toNat_natCast];exact UInt8.ofNat_toNat
 rw [ec];have em:=zhG zl4 c;refine biE (fun hsg=>?_) fun hsg=>?_
 ·have hsg:c∈zl4:=dT (em.symm.trans hsg);have e:zcq s k=⟨6,[c],k⟩:=by unfold zcq;rw [ek];simp only [if_neg h10,hlo,hup,Bool.false_eq_true,if_false,if_pos hsg]
  refine⟨(k+1:Nat),(zai (by omega)).trans ew.symm,?_⟩;refine⟨k+1,rfl,hl,k,rfl,by omega,?_⟩;refine⟨zaR ⟨6,[c],k⟩,by rw [hcut1];rfl,?_⟩;refine fin (T:=⟨6,[c],k⟩) (Below.refl _ _) fun Y hb f=>?_;exact out hb f e.symm
 have hsg:c ∉ zl4:=dF (em.symm.trans hsg);refine⟨k,rfl,hkl,?_⟩;refine cmo (Tryz.strings_HasPrefix ((bs s).extract k (bs s).size) (bs [94,45,49]) X) ?_;rintro e X' ⟨rfl,hx'⟩;have hx':=hx'.symm;subst hx';have ep:Lib.hasPrefix ((bs s).extract k (bs s).size).data.toList (bs [94,45,49]).data.toList=decide ((s.drop k).take 3=[94,45,49]):=by
  rw [<- preB,zfa];show Lib.hasPrefix ((s.drop k).take (s.length-k)) _=_;rw [List.take_of_length_le (by rw [List.length_drop];omega)];rfl
 rw [ep];refine biE (fun hp=>?_) fun hp=>?_
 ·have hp:(s.drop k).take 3=[94,45,49]:=dT hp;refine⟨zaR ⟨6,[94,45,49],k⟩,rfl,?_⟩;refine fin (T:=⟨6,[94,45,49],k⟩) (Below.refl _ _) fun Y hb f=>?_;refine out hb f ?_;unfold zcq;rw [ek];simp only [if_neg h10,hlo,hup,Bool.false_eq_true,if_false,if_neg hsg,if_pos hp]
 ·have hp:¬ (s.drop k).take 3=[94,45,49]:=dF hp;refine⟨zaR ⟨0,[],k⟩,rfl,?_⟩;refine fin (T:=⟨0,[],k⟩) (Below.refl _ _) fun Y hb f=>?_;refine out hb f ?_;unfold zcq;rw [ek];simp only [if_neg h10,hlo,hup,Bool.false_eq_true,if_false,if_neg hsg,if_neg hp]
end
def zad (t:Trm) (p:Option Addr) (cap:Nat):List Value:=[u8 t.kind,strV t.name,.slice p t.kids.length cap]
inductive KidsT (Q:Nat->Prop) (w:World):Option Addr->List Trm->Prop
 | mk (p:Option Addr) (kids:List Trm) (hn:kids.length<=140737488351232) (b o:Nat) (hp:kids.length=0\/p=some ⟨b,o,none⟩) (q:Nat->Option Addr) (c:Nat->Nat)
   (hk:∀ i (h:i<kids.length),kids[i].name.length<=140737488351232/\Q b/\zav w ⟨b,o+i*3,none⟩ (zad kids[i] (q i) (c i)))
   (ht:∀ i (h:i<kids.length),KidsT Q w (q i) kids[i].kids):KidsT Q w p kids
section
variable {Q Q':Nat->Prop} {w w2:World} {p:Option Addr} {kids:List Trm}
theorem KidsT.inv (h:KidsT Q w p kids):kids.length<=140737488351232/\∃ b o,(kids.length=0\/p=some ⟨b,o,none⟩) /\
  ∀ i (h:i<kids.length),∃ q c,kids[i].name.length<=140737488351232/\Q b/\zav w ⟨b,o+i*3,none⟩ (zad kids[i] q c)/\KidsT Q w q kids[i].kids:=by
 cases h with
 | mk _ _ hn b o hp q c hk ht=>exact⟨hn,b,o,hp,fun i hi=>⟨q i,c i,(hk i hi).1,(hk i hi).2.1,(hk i hi).2.2,ht i hi⟩⟩
theorem KidsT.by (hs:∀ (g:Nat) (cs:Array Value) (t:TypeId) (fr:Nat×Nat),Q g->w.heap[g]?=some (.cells cs t fr)->w2.heap[g]?=w.heap[g]?) (h:KidsT Q w p kids):KidsT Q w2 p kids:=by
 induction h with
 | mk p kids hn b o hp q c hk ht ih =>
  refine .mk p kids hn b o hp q c (fun i hi=>⟨(hk i hi).1,(hk i hi).2.1,?_⟩) ih;obtain⟨_,hB,hc⟩:=hk i hi;have h0:=hc 0 _ rfl;unfold World.cell? at h0
  split at h0
  ·rename_i cs t fr hb;exact zaA (hs b cs t fr hB hb) hc
  ·cases h0
theorem KidsT.kept (h:KidsT Q w p kids) (hb:Bw w w2):KidsT Q w2 p kids:=h.by fun g cs t fr _ hc=>hb.block g (hlt hc)
theorem KidsT.weak (h:KidsT Q w p kids) (hb:∀ b,Q b->Q' b):KidsT Q' w p kids:=by
 induction h with
 | mk p kids hn b o hp q c hk ht ih=>exact .mk p kids hn b o hp q c (fun i hi=>⟨(hk i hi).1,hb _ (hk i hi).2.1,(hk i hi).2.2⟩) ih
theorem KidsT.there (h:KidsT Q w p kids):KidsT (fun b=>Q b/\b<w.heap.size) w p kids:=by
 induction h with
 | mk p kids hn b o hp q c hk ht ih =>
  refine .mk p kids hn b o hp q c (fun i hi=>⟨(hk i hi).1,⟨(hk i hi).2.1,?_⟩,(hk i hi).2.2⟩) ih;have h0:=(hk i hi).2.2 0 _ rfl;unfold World.cell? at h0
  split at h0
  ·rename_i hb;exact hlt hb
  ·cases h0
theorem KidsT.nil:KidsT Q w p [] := .mk p [] (by decide) 0 0 (.inl rfl) (fun _=>none) (fun _=>0) (fun i hi=>by simp at hi) (fun i hi=>by simp at hi)
end
def mapB (f:Bs->Bool):Bs->Option Value:=fun t=>if f t then some (.bool true) else none
def zdk (s:Bs) (l c:Nat) (st:PS):List Value:=[strV s,u8n st.tok.kind,strV st.tok.text,i64 (st.tok.at_:Nat),.map (some l),.map (some c),i64 (st.nodes:Nat),i64 (st.deep:Nat),i64 st.e]
structure ParB (g l c:Nat) (s:Bs) (st:PS) (w:World):Prop where
 f:w.heap[g]?=some (.cells (zdk s l c st).toArray 108 (0,0))
 lm:MapF keyS w l (mapB st.lets)
 cm:MapF keyS w c (mapB st.checks)
 ord:4<l/\l<c/\c<g
 glob:GlobK w
 len:s.length<=8192
 pos:st.tok.at_+st.tok.text.length<=s.length
 nod:st.nodes<=400
 dep:st.deep<=50
theorem zb5 {κ:Type} [DecidableEq κ] {key:κ->Value} {w:World} {r:Nat} {f:κ->Option Value} (h:MapF key w r f):r<w.heap.size:=by
 obtain⟨_,_,h,_⟩:=h;exact hlt h
theorem zjQ {T:TypeId} {v:Value} (h:(Tryz.prog.info? T).bind (fun i=>i.zero)=some v) (w:World):(zeroValue T).run Tryz.prog w = .ok v w:=by
 cases hi:Tryz.prog.info? T with
 | none=>rw [hi] at h;cases h
 | some inf =>
  rw [hi] at h;have h:inf.zero=some v:=h;simp [zeroValue,typeInfo,hi,h]
section
variable {g l c:Nat} {s:Bs} {st st':PS} {w w2:World}
theorem ParB.lt (h:ParB g l c s st w):g<w.heap.size:=hlt h.f
theorem GlobK.grown (h:GlobK w) (hg:4<g) (hb:w.grownBy w2 (some g)):GlobK w2:=by
 have sm:∀ j,j<=4->w2.heap[j]?=w.heap[j]?:=fun j hj=>hb.block j (by have:=h.lt;omega) (by simp;omega);exact⟨zaA (sm _ (by decide)) h.op,zaA (sm _ (by decide)) h.st,zaA (sm _ (by decide)) h.sg,zaA (sm _ (by decide)) h.nd,nL h.lt hb.size⟩
theorem ParB.below (h:ParB g l c s st w) (hb:Bw w w2):ParB g l c s st w2 :=
 ⟨zab hb h.f,h.lm.below hb,h.cm.below hb,h.ord,h.glob.below hb,h.len,h.pos,h.nod,h.dep⟩
theorem ParB.put (h:ParB g l c s st w) (hb:w.grownBy w2 (some g)) (hf:w2.heap[g]?=some (.cells (zdk s l c st').toArray 108 (0,0))) (e1:st'.lets=st.lets) (e2:st'.checks=st.checks)
  (hp:st'.tok.at_+st'.tok.text.length<=s.length) (hn:st'.nodes<=400) (hd:st'.deep<=50):ParB g l c s st' w2:=by
 have o:=h.ord;refine⟨hf,?_,?_,o,h.glob.grown (by omega) hb,h.len,hp,hn,hd⟩
 ·rw [e1];exact h.lm.same (hb.block l (zb5 h.lm) (by simp;omega))
 ·rw [e2];exact h.cm.same (hb.block c (zb5 h.cm) (by simp;omega))
theorem ParB.tok (h:ParB g l c s st w) {t:Tk} (ht:t.at_+t.text.length<=s.length) {K:World->Prop} (k:∀ Y,ParB g l c s { st with tok:=t } Y->w.grownBy Y (some g)->K Y) :
  SatR ((storeVar 106 ⟨g,1,none⟩ (.agg (zaR t).toArray)).run Tryz.prog w) fun _ w'=>K w' :=
 zbs k106 h.f (o:=1) (v := .agg (zaR t).toArray) rfl (by show 1+3<=9;decide) rfl fun Y fY gY _=>k Y (h.put gY fY rfl rfl ht h.nod h.dep) gY
theorem ParB.nodes (h:ParB g l c s st w) {n:Nat} (hn:n<=400) {K:World->Prop} (k:∀ Y,ParB g l c s { st with nodes:=n } Y->w.grownBy Y (some g)->K Y) :
  SatR ((storeVar 3 ⟨g,6,none⟩ (i64 (n:Nat))).run Tryz.prog w) fun _ w'=>K w' :=
 zaq k3 h.f (o:=6) (v:=i64 (n:Nat)) rfl rfl (by show 6<9;decide) rfl fun Y fY gY _=>k Y (h.put gY fY rfl rfl h.pos hn h.dep) gY
theorem ParB.deep (h:ParB g l c s st w) {n:Nat} (hn:n<=50) {K:World->Prop} (k:∀ Y,ParB g l c s { st with deep:=n } Y->w.grownBy Y (some g)->K Y) :
  SatR ((storeVar 3 ⟨g,7,none⟩ (i64 (n:Nat))).run Tryz.prog w) fun _ w'=>K w' :=
 zaq k3 h.f (o:=7) (v:=i64 (n:Nat)) rfl rfl (by show 7<9;decide) rfl fun Y fY gY _=>k Y (h.put gY fY rfl rfl h.pos h.nod hn) gY
theorem ParB.err (h:ParB g l c s st w) {n:Int} {K:World->Prop} (k:∀ Y,ParB g l c s { st with e:=n } Y->w.grownBy Y (some g)->K Y) :
  SatR ((storeVar 27 ⟨g,8,none⟩ (i64 n)).run Tryz.prog w) fun _ w'=>K w' :=
 zaq k27 h.f (o:=8) (v:=i64 n) rfl rfl (by show 8<9;decide) rfl fun Y fY gY _=>k Y (h.put gY fY rfl rfl h.pos h.nod h.dep) gY
abbrev nx (s:Bs) (st:PS):PS:=zbe (zaw s) st
theorem zdl (h:ParB g l c s st w):Calls Tryz.prog 45 #[At0 g] w fun e w'=>e = .returned (zcr [])/\ParB g l c s (nx s st) w'/\w.grownBy w' (some g):=by
 refine cofE 22 [At0 g] Tryz.func45 ?_;refine DrawE.ord [20] [0,1,2,3,4,5,6,7,8,9,10,11,12,13,14,15,16,17,18,19,20] (by kernel_rfl) ?_;have h1:ParB g l c s st w.drew:=h.below (Below.refl _ w).drew;have hl:=h.len;have hp:=h.pos;refine⟨_,zac (zaa h1.f) (i:=0) rfl,?_⟩;refine⟨_,zac (zaa h1.f) (i:=3) rfl,?_⟩;refine⟨_,zac (zaa h1.f) (i:=2) rfl,?_⟩;refine⟨((st.tok.at_+st.tok.text.length:Nat):Int),(zai (a:=(st.tok.at_:Int)+(st.tok.text.length:Int)) (by omega)).trans (by omega),?_⟩;refine cmo (zpT (s:=s) (a:=st.tok.at_+st.tok.text.length) h1.glob hp (by omega)) ?_;rintro e X ⟨rfl,hbX⟩;refine⟨hbX,?_⟩;have hX:=h1.below hbX;refine hX.tok (zoe hp) fun Y hY gY=>?_;exact⟨rfl,hY,zaf (zag ((Below.refl _ w).drew.trans hbX)) gY⟩
theorem zbV (h:ParB g l c s st w) (n:Int):Calls Tryz.prog 103 #[At0 g,i64 n] w fun e w'=>e = .returned (.bool false)/\ParB g l c s (zc4 n st) w'/\w.grownBy w' (some g):=by
 refine cofE 9 [At0 g,i64 n] Tryz.func103 ?_;refine h.err fun Y hY gY=>?_;exact⟨rfl,hY,gY⟩
theorem zaH {a b:Nat}:decide ((a:Int)=(b:Int))=decide (a=b):=by rw [decide_eq_decide];omega
theorem is_c (h:ParB g l c s st w) (t:Bs):Calls Tryz.prog 241 #[At0 g,strV t] w fun e w'=>e = .returned (.bool (isP st t))/\w=w':=by
 refine cofE 20 [At0 g,strV t] Tryz.func241 ?_;unfold isP;refine⟨_,zac (zaa h.f) (i:=1) rfl,?_⟩;refine biE (fun h1=>?_) fun h1=>?_
 ·have h1:decide (st.tok.kind=6)=true:=(zaH (b:=6)).symm.trans h1;refine⟨_,zac (zaa h.f) (i:=2) rfl,?_⟩;refine⟨_,fun w=>zay _ _ st.tok.text t w,?_⟩;exact⟨rb (by rw [h1];rfl),rfl⟩
 ·have h1:decide (st.tok.kind=6)=false:=(zaH (b:=6)).symm.trans h1;exact⟨rb (by rw [h1];rfl),rfl⟩
theorem zdW (h:ParB g l c s st w) (k:Nat) (t:Bs):Calls Tryz.prog 107 #[At0 g,u8n k,strV t] w fun e w'=>e = .returned (.bool (zaK (zaw s) k t st).1)/\ParB g l c s (zaK (zaw s) k t st).2 w'/\w.grownBy w' (some g):=by
 refine cofE 27 [At0 g,u8n k,strV t] Tryz.func107 ?_;refine⟨_,zac (zaa h.f) (i:=1) rfl,?_⟩;have bad:(st.tok.kind≠k\/st.tok.text≠t)->Calls Tryz.prog 103 #[At0 g,i64 110] w fun e w'=>e = .returned (.bool (zaK (zaw s) k t st).1)/\ParB g l c s (zaK (zaw s) k t st).2 w'/\w.grownBy w' (some g):=fun hb=>by
  have e:zaK (zaw s) k t st=(false,zc4 110 st):=by unfold zaK;rw [if_pos hb]
  rw [e];exact zbV h 110
 refine biE (fun h1=>?_) fun h1=>?_
 ·have h1:(!decide ((st.tok.kind:Int)=(k:Int)))=true:=h1;rw [zaH] at h1;refine brT ?_;refine cmo (bad (.inl (by simpa using h1))) ?_;rintro e Y ⟨rfl,hY,gY⟩;exact⟨rfl,hY,gY⟩
 have h1:(!decide ((st.tok.kind:Int)=(k:Int)))=false:=h1;rw [zaH] at h1;have h1:st.tok.kind=k:=by simpa using h1
 refine⟨_,zac (zaa h.f) (i:=2) rfl,?_⟩;refine⟨_,fun w=>zfY _ _ st.tok.text t w,?_⟩;refine biE (fun h2=>?_) fun h2=>?_
 ·have h2:(!decide (st.tok.text=t))=true:=h2;refine cmo (bad (.inr (by simpa using h2))) ?_;rintro e Y ⟨rfl,hY,gY⟩;exact⟨rfl,hY,gY⟩
 ·have h2:(!decide (st.tok.text=t))=false:=h2;have h2:st.tok.text=t:=by simpa using h2
  have e:zaK (zaw s) k t st=(true,nx s st):=by unfold zaK;rw [if_neg (by rintro (h | h);exact h h1;exact h h2)]
  rw [e];refine cmo (zdl h) ?_;rintro e Y ⟨rfl,hY,gY⟩;exact⟨rfl,hY,gY⟩
theorem ziz (h:ParB g l c s st w):Calls Tryz.prog 184 #[At0 g] w fun e w'=>e = .returned (.bool (zbv (zaw s) st).1)/\ParB g l c s (zbv (zaw s) st).2 w'/\w.grownBy w' (some g):=by
 refine cofE 19 [At0 g] Tryz.func184 ?_;have hn:=h.nod;refine⟨_,zac (zaa h.f) (i:=6) rfl,?_⟩;refine biE (fun h1=>?_) fun h1=>?_
 ·have h1:(400:Int)<=(st.nodes:Int):=dT h1;have e:zbv (zaw s) st=(false,zc4 5 st):=by unfold zbv;rw [if_pos (by omega)]
  rw [e];refine cmo (zbV h 5) ?_;rintro e Y ⟨rfl,hY,gY⟩;exact⟨rfl,hY,gY⟩
 ·have h1:¬ (400:Int)<=(st.nodes:Int):=dF h1;have e:zbv (zaw s) st=(true,nx s { st with nodes:=st.nodes+1 }):=by unfold zbv;rw [if_neg (by omega)]
  rw [e];refine⟨_,zac (zaa h.f) (i:=6) rfl,?_⟩;refine⟨((st.nodes+1:Nat):Int),(zai (by omega)).trans (by omega),?_⟩;refine h.nodes (n:=st.nodes+1) (by omega) fun Y hY gY=>?_;refine cmo (zdl hY) ?_;rintro e Z ⟨rfl,hZ,gZ⟩;exact⟨rfl,hZ,zaf gY gZ⟩
theorem zeD {w:World} {r:Nat} {f:Bs->Bool} (h:MapF keyS w r (mapB f)) (t:Bs):(Instr.lookup 104 (.map (some r)) (strV t) false).run Tryz.prog w = .ok (.bool (f t)) w:=by
 have:=zgM skey Tryz.underlying104 (z := .bool false) (zjQ (by kernel_rfl)) h t false;refine this.trans ?_;unfold mapB
 cases f t <;> rfl
end
theorem zjR {n:Nat} (h:n<=255):IntKind.u8.wrap (n:Int)=(n:Int):=by
 unfold IntKind.wrap;simp only [IntKind.bits,IntKind.signed,Bool.false_and,Bool.false_eq_true,if_false];omega
section
variable {g l c pb:Nat} {s:Bs} {st:PS} {w:World}
theorem zpH (h:ParB g l c s st w) (hp:w.heap[pb]?=some (.cells #[At0 g] 103 (0,0))) (t:Bs):Calls Tryz.prog 105 #[strV t,At0 pb] w fun e w'=>e = .returned (.bool (relB t||st.lets t))/\w=w':=by
 refine cofE 14 [strV t,At0 pb] Tryz.func105 ?_;refine cmo (zhF t w) ?_;rintro e _ ⟨rfl,rfl⟩;refine biE (fun h1=>?_) fun h1=>?_
 ·have h1:relB t=true:=h1;exact⟨rb (by rw [h1];rfl),rfl⟩
 ·have h1:relB t=false:=h1;rw [h1];refine⟨_,zac (zaa hp) (i:=0) rfl,?_⟩;refine⟨_,zac (zaa h.f) (i:=4) rfl,?_⟩;refine⟨_,fun w2 hb=>zeD (h.lm.below hb) t,?_⟩;exact⟨rfl,rfl⟩
theorem zpG (h:ParB g l c s st w) (hp:w.heap[pb]?=some (.cells #[At0 g] 103 (0,0))) (t:Bs):Calls Tryz.prog 109 #[strV t,At0 pb] w fun e w'=>e = .returned (.bool (st.checks t))/\w=w':=by
 refine cofE 10 [strV t,At0 pb] Tryz.func109 ?_;refine⟨_,zac (zaa hp) (i:=0) rfl,?_⟩;refine⟨_,zac (zaa h.f) (i:=5) rfl,?_⟩;refine⟨_,fun w2 hb=>zeD (h.cm.below hb) t,?_⟩;exact⟨rfl,rfl⟩
theorem zlh (h:ParB g l c s st w) (hp:w.heap[pb]?=some (.cells #[At0 g] 103 (0,0))):Calls Tryz.prog 104 #[At0 g,.func (.func 105) #[] #[At0 pb]] w fun e w'=>e = .returned (.tuple #[strV ((zby (zaw s) (fun t=>relB t||st.lets t) st).1.getD []),.bool (zby (zaw s) (fun t=>relB t||st.lets t) st).1.isSome])/\ParB g l c s (zby (zaw s) (fun t=>relB t||st.lets t) st).2 w'/\w.grownBy w' (some g):=by
 refine cofE 28 [At0 g,.func (.func 105) #[] #[At0 pb]] Tryz.func104 ?_;refine⟨_,zac (zaa h.f) (i:=2) rfl,?_⟩;refine⟨_,zac (zaa h.f) (i:=1) rfl,?_⟩;refine biE (fun h1=>?_) fun h1=>?_
 ·have h1:(!decide ((st.tok.kind:Int)=((4:Nat):Int)))=true:=h1;rw [zaH] at h1;have h1:st.tok.kind≠4:=by simpa using h1
  have e:zby (zaw s) (fun t=>relB t||st.lets t) st=(none,zc4 110 st):=by unfold zby;rw [if_pos h1]
  rw [e];refine cmo (zbV h 110) ?_;rintro e Y ⟨rfl,hY,gY⟩;exact⟨rfl,hY,gY⟩
 have h1:(!decide ((st.tok.kind:Int)=((4:Nat):Int)))=false:=h1;rw [zaH] at h1;have h1:st.tok.kind=4:=by simpa using h1
 refine cmo (zpH h hp st.tok.text) ?_;rintro e _ ⟨rfl,rfl⟩;refine biE (fun h2=>?_) fun h2=>?_
 ·have h2:((fun t=>relB t||st.lets t) st.tok.text)=true:=h2;have e:zby (zaw s) (fun t=>relB t||st.lets t) st=(none,zc4 111 st):=by unfold zby;rw [if_neg (by rw [h1];decide),if_pos h2]
  rw [e];refine cmo (zbV h 111) ?_;rintro e Y ⟨rfl,hY,gY⟩;exact⟨rfl,hY,gY⟩
 ·have h2:((fun t=>relB t||st.lets t) st.tok.text)=false:=h2;have e:zby (zaw s) (fun t=>relB t||st.lets t) st=(some st.tok.text,nx s st):=by unfold zby;rw [if_neg (by rw [h1];decide),if_neg (by rw [h2];exact Bool.false_ne_true)]
  rw [e];refine cmo (zdl h) ?_;rintro e Y ⟨rfl,hY,gY⟩;exact⟨rfl,hY,gY⟩
theorem zlg (h:ParB g l c s st w) (hp:w.heap[pb]?=some (.cells #[At0 g] 103 (0,0))):Calls Tryz.prog 104 #[At0 g,.func (.func 109) #[] #[At0 pb]] w fun e w'=>e = .returned (.tuple #[strV ((zby (zaw s) st.checks st).1.getD []),.bool (zby (zaw s) st.checks st).1.isSome])/\ParB g l c s (zby (zaw s) st.checks st).2 w'/\w.grownBy w' (some g):=by
 refine cofE 28 [At0 g,.func (.func 109) #[] #[At0 pb]] Tryz.func104 ?_;refine⟨_,zac (zaa h.f) (i:=2) rfl,?_⟩;refine⟨_,zac (zaa h.f) (i:=1) rfl,?_⟩;refine biE (fun h1=>?_) fun h1=>?_
 ·have h1:(!decide ((st.tok.kind:Int)=((4:Nat):Int)))=true:=h1;rw [zaH] at h1;have h1:st.tok.kind≠4:=by simpa using h1
  have e:zby (zaw s) st.checks st=(none,zc4 110 st):=by unfold zby;rw [if_pos h1]
  rw [e];refine cmo (zbV h 110) ?_;rintro e Y ⟨rfl,hY,gY⟩;exact⟨rfl,hY,gY⟩
 have h1:(!decide ((st.tok.kind:Int)=((4:Nat):Int)))=false:=h1;rw [zaH] at h1;have h1:st.tok.kind=4:=by simpa using h1
 refine cmo (zpG h hp st.tok.text) ?_;rintro e _ ⟨rfl,rfl⟩;refine biE (fun h2=>?_) fun h2=>?_
 ·have h2:(st.checks st.tok.text)=true:=h2;have e:zby (zaw s) st.checks st=(none,zc4 111 st):=by unfold zby;rw [if_neg (by rw [h1];decide),if_pos h2]
  rw [e];refine cmo (zbV h 111) ?_;rintro e Y ⟨rfl,hY,gY⟩;exact⟨rfl,hY,gY⟩
 ·have h2:(st.checks st.tok.text)=false:=h2;have e:zby (zaw s) st.checks st=(some st.tok.text,nx s st):=by unfold zby;rw [if_neg (by rw [h1];decide),if_neg (by rw [h2];exact Bool.false_ne_true)]
  rw [e];refine cmo (zdl h) ?_;rintro e Y ⟨rfl,hY,gY⟩;exact⟨rfl,hY,gY⟩
theorem zcC (hg:GlobK w) {k:Nat} (hk:k<10):w.cell? ⟨2,0+k,none⟩=some (i64 (strL.getD k 0:Nat)):=by
 refine zac hg.st ?_;have hk:k<strL.length:=hk;rw [List.getElem?_map,gE hk,gDe,gE hk];rfl
theorem zhf (hg:GlobK w) {k:Nat} (hk:k<10):w.cell? ⟨3,0+k,none⟩=some (strV (zb1.getD k [])):=by
 refine zac hg.sg ?_;have hk:k<zb1.length:=hk;rw [List.getElem?_map,gE hk,gDe,gE hk];rfl
def noOp (st:PS) (k:Nat):Prop:=(2<k->isP st [124]=false)/\(3<k->isP st [38]=false)/\(4<k->isP st [92]=false)/\(5<k->isP st [59]=false)
theorem zla (h:ParB g l c s st w):Calls Tryz.prog 183 #[At0 g] w fun e w'=>e = .returned (u8n (zaW st))/\w=w':=by
 refine cofE 22 [At0 g] Tryz.func183 ?_;have hg:=h.glob;have hlt:=hg.lt;refine⟨strL.map (fun n=>i64 (n:Nat)),rfl,hg.st,nL (by decide) (Nat.succ_le_of_lt hg.lt),?_⟩;refine⟨Nat,fun k=>⟨[(0,At0 g),(5,.agg (strL.map (fun n=>i64 (n:Nat))).toArray),(6,.int .i64 (k:Nat))],[]⟩,fun k V=>k<=10/\noOp st k/\w=V,fun k=>10-k,0,
  (cvE rfl rfl),⟨Nat.zero_le _,⟨fun h=>absurd h (by decide),fun h=>absurd h (by decide),fun h=>absurd h (by decide),fun h=>absurd h (by decide)⟩,rfl⟩,?_⟩
 rintro k _ ⟨hk,hno,rfl⟩;refine biE (fun h1=>?_) fun h1=>?_
 ·have h1:(k:Int)<10:=dT h1;have hkl:k<strL.length:=by show k<10;omega
  refine⟨k,rfl,by omega,?_⟩;have hget:(strL.map fun n=>i64 (n:Nat))[k*1]?=some (i64 (strL.getD k 0:Nat)):=by
   rw [Nat.mul_one,List.getElem?_map,gE hkl,gDe,gE hkl];rfl
  refine zcR hget ?_;refine biE (fun h2=>?_) fun h2=>?_
  ·have h2:(0:Int)<((strL.getD k 0:Nat):Int):=dT h2;refine⟨k,rfl,by omega,?_⟩;refine⟨_,by rw [Nat.mul_one];exact zhf hg (by omega),?_⟩;refine cmo (is_c h (zb1.getD k [])) ?_;rintro e _ ⟨rfl,rfl⟩;obtain⟨n2,n3,n4,n5⟩:=hno;have cases5:k=2\/k=3\/k=4\/k=5:=by
    have:∀ j:Fin 10,0<strL.getD j.1 0->j.1=2\/j.1=3\/j.1=4\/j.1=5:=(by decide);exact this ⟨k,by omega⟩ (by show 0<strL.getD k 0;omega)
   refine biE (fun h3=>?_) fun h3=>?_
   ·have h3:isP st (zb1.getD k [])=true:=h3;refine⟨(k:Int),zjR (by omega),?_⟩;refine⟨?_,rfl⟩;have e:zaW st=k:=by
     unfold zaW;rcases cases5 with rfl | rfl | rfl | rfl
     ·rw [if_pos (show isP st [124]=true from h3)]
     ·rw [if_neg (by rw [n2 (by decide)];decide),if_pos (show isP st [38]=true from h3)]
     ·rw [if_neg (by rw [n2 (by decide)];decide),if_neg (by rw [n3 (by decide)];decide),if_pos (show isP st [92]=true from h3)]
     ·rw [if_neg (by rw [n2 (by decide)];decide),if_neg (by rw [n3 (by decide)];decide),if_neg (by rw [n4 (by decide)];decide),if_pos (show isP st [59]=true from h3)]
    rw [e];rfl
   ·have h3:isP st (zb1.getD k [])=false:=h3;refine nxI (by omega) ?_;refine⟨k+1,(cvE rfl rfl),⟨by omega,?_,rfl⟩,by dsimp only;omega⟩;refine⟨fun h=>?_,fun h=>?_,fun h=>?_,fun h=>?_⟩
    ·rcases cases5 with rfl | rfl | rfl | rfl
     ·exact h3
     all_goals exact n2 (by decide)
    ·rcases cases5 with rfl | rfl | rfl | rfl
     ·exact absurd h (by decide)
     ·exact h3
     all_goals exact n3 (by decide)
    ·rcases cases5 with rfl | rfl | rfl | rfl
     ·exact absurd h (by decide)
     ·exact absurd h (by decide)
     ·exact h3
     ·exact n4 (by decide)
    ·rcases cases5 with rfl | rfl | rfl | rfl
     ·exact absurd h (by decide)
     ·exact absurd h (by decide)
     ·exact absurd h (by decide)
     ·exact h3
  ·have h2:¬ (0:Int)<((strL.getD k 0:Nat):Int):=dF h2;refine brF ?_;refine nxI (by omega) ?_;refine⟨k+1,(cvE rfl rfl),⟨by omega,?_,rfl⟩,by dsimp only;omega⟩;have no5:k≠2/\k≠3/\k≠4/\k≠5:=by
    have:∀ j:Fin 10,¬ 0<strL.getD j.1 0->j.1≠2/\j.1≠3/\j.1≠4/\j.1≠5:=(by decide);exact this ⟨k,by omega⟩ (by show ¬ 0<strL.getD k 0;omega)
   obtain⟨n2,n3,n4,n5⟩:=hno;exact⟨fun h=>n2 (by omega),fun h=>n3 (by omega),fun h=>n4 (by omega),fun h=>n5 (by omega)⟩
 ·have h1:¬ (k:Int)<10:=dF h1;obtain⟨n2,n3,n4,n5⟩:=hno;refine⟨?_,rfl⟩;have e:zaW st=0:=by
   unfold zaW;rw [if_neg (by rw [n2 (by omega)];decide),if_neg (by rw [n3 (by omega)];decide),if_neg (by rw [n4 (by omega)];decide),if_neg (by rw [n5 (by omega)];decide)]
  rw [e];rfl
end
end Go.Proofs.YtkpkdmipjinoaaaGreatDoor
namespace Go.Proofs.YtkpkdmipjinoaaaGreatDoor
open Go.Vc
theorem zfw {st:PS} {t:Bs} (h:isP st t=true):st.tok.kind=6:=by
 unfold isP at h;rw [bAT] at h;exact dT h.1
theorem zlc {st:PS} (h:zaW st≠0):st.tok.kind=6:=by
 unfold zaW at h
 repeat' split at h
 all_goals first | exact zfw ‹_› | exact absurd rfl h
theorem zk6 {st:PS} (h:zdj st≠0):st.tok.kind=6:=by
 unfold zdj at h
 repeat' split at h
 all_goals first | exact zfw ‹_› | exact absurd rfl h
def GdT (k:Nat) (t:Tk):Prop:=t.at_<=k/\t.kind≠1/\(t.kind≠0->t.at_+t.text.length<=k)
section
variable {sc:Nat->Tk} {k:Nat} (H:∀ a,a<=k->GdT k (sc a))
include H
theorem zdM {st:PS} (h:GdT k st.tok) (h0:st.tok.kind≠0):GdT k (zbe sc st).tok:=H _ (h.2.2 h0)
theorem zeJ {c:Nat} {t:Bs} {st:PS} (h:GdT k st.tok) (h0:c≠0):GdT k (zaK sc c t st).2.tok:=by
 unfold zaK
 split
 ·exact h
 ·rename_i hc;exact zdM H h fun e=>hc (.inl fun e2=>h0 (e2.symm.trans e))
theorem zhL {st:PS} (h:GdT k st.tok) (h0:st.tok.kind≠0):GdT k (zbv sc st).2.tok:=by
 unfold zbv
 split
 ·exact h
 ·exact zdM (st:={ st with nodes:=st.nodes+1 }) H h h0
theorem zm3 {used:Bs->Bool} {st:PS} (h:GdT k st.tok):GdT k (zby sc used st).2.tok:=by
 unfold zby
 split
 ·exact h
 ·rename_i hc
  split
  ·exact h
  ·exact zdM H h fun e=>hc (by rw [e];decide)
theorem zm2:∀ f,(∀ least st,GdT k st.tok->GdT k (termP sc f least st).2.tok)/\(∀ least t st,GdT k st.tok->GdT k (moreP sc f least t st).2.tok) /\
  (∀ st,GdT k st.tok->GdT k (tightP sc f st).2.tok)/\(∀ t st,GdT k st.tok->GdT k (postsP sc f t st).2.tok)/\(∀ st,GdT k st.tok->GdT k (simpleP sc f st).2.tok)
 | 0=>by
  refine⟨?_,?_,?_,?_,?_⟩ <;> intros <;> simp only [termP,moreP,tightP,postsP,simpleP] <;> assumption
 | f+1=>by
  obtain⟨h1,h2,h3,h4,h5⟩:=zm2 f;refine⟨fun least st h=>?_,fun least t st h=>?_,fun st h=>?_,fun t st h=>?_,fun st h=>?_⟩
  ·rw [termP];have:=h3 st h
   split <;> rename_i e <;> rw [e] at this
   ·exact this
   ·exact h2 _ _ _ this
  ·rw [moreP]
   split
   ·exact h
   ·rename_i hc;have hk:st.tok.kind=6:=zlc fun e=>hc (.inl e);have hn:=zhL H h (by rw [hk];decide)
    split <;> rename_i e <;> rw [e] at hn
    ·exact hn
    ·have:=h1 (zaW st) _ hn
     split <;> rename_i e2 <;> rw [e2] at this
     ·exact this
     ·exact h2 _ _ _ this
  ·rw [tightP];have:=h5 st h
   split <;> rename_i e <;> rw [e] at this
   ·exact this
   ·exact h4 _ _ this
  ·rw [postsP]
   split
   ·exact h
   ·rename_i hc;have hn:=zhL H h (by rw [zk6 hc];decide)
    split <;> rename_i e <;> rw [e] at hn
    ·exact hn
    ·exact h4 _ _ hn
  ·rw [simpleP]
   split
   ·rename_i hk
    split
    ·exact h
    ·have hn:=zhL H h (by rw [hk];decide)
     split <;> rename_i e <;> rw [e] at hn <;> exact hn
   ·split
    ·rename_i hi;have hn:=zhL H h (by rw [zfw hi];decide)
     split <;> rename_i e <;> rw [e] at hn
     ·exact hn
     ·split
      ·exact hn
      ·rename_i h5'
       split
       ·exact hn
       ·have hx:=zeJ H (c:=6) (t:=[93]) (zdM H hn fun e0=>h5' (by rw [e0];decide)) (by decide)
        split <;> rename_i e2 <;> rw [e2] at hx <;> exact hx
    ·split
     ·rename_i hi;rw [bAT] at hi;have hn:=h1 1 _ (zdM (st:={ st with deep:=st.deep+1 }) H h (by show st.tok.kind≠0;rw [zfw hi.1];decide))
      split <;> rename_i e <;> rw [e] at hn
      ·exact hn
      ·rename_i st2;have hx:=zeJ (st:={ st2 with deep:=st2.deep-1 }) H (c:=6) (t:=[41]) hn (by decide)
       split <;> rename_i e2 <;> rw [e2] at hx <;> exact hx
     ·exact h
theorem zqv {f many:Nat} {st:PS} (h:GdT k st.tok):GdT k (zcG sc f many st).2.tok:=by
 have T:=fun least st h=>(zm2 H f).1 least st h;have gEn:∀ (l:LineD) (st:PS),GdT k st.tok->GdT k (endP l st).2.tok:=fun l st h=>by unfold endP;split <;> exact h
 unfold zcG
 split
 ·exact h
 ·rename_i hc;have hk:st.tok.kind≠0:=fun e=>hc (.inl (by rw [e];decide))
  split
  ·exact h
  ·split
   ·have hn:=zm3 H (used:=fun s=>relB s||st.lets s) (zdM H h hk)
    split <;> rename_i e <;> rw [e] at hn
    ·exact hn
    ·have hx:=zeJ H (c:=6) (t:=[61]) hn (by decide)
     split <;> rename_i e2 <;> rw [e2] at hx
     ·exact hx
     ·have ht:=T 1 _ hx
      split <;> rename_i e3 <;> rw [e3] at ht
      ·exact ht
      ·exact gEn _ _ ht
   ·have ht:=T 1 _ (zdM H h hk)
    split <;> rename_i e <;> rw [e] at ht
    ·exact ht
    ·have hx:=zeJ H (c:=3) (t:=[97,115]) ht (by decide)
     split <;> rename_i e2 <;> rw [e2] at hx
     ·exact hx
     ·rename_i st3;have hn:=zm3 H (used:=st3.checks) hx
      split <;> rename_i e3 <;> rw [e3] at hn
      ·exact hn
      ·exact gEn _ _ hn
theorem zhM {f:Nat}:∀ (n:Nat) (l:List LineD) (st:PS),GdT k st.tok->(zcd sc f n l st).1=none/\(zcd sc f n l st).2.1<=k
 | 0,l,st,h=>⟨rfl,h.1⟩
 | n+1,l,st,h=>by
  rw [zcd];rw [if_neg h.2.1]
  split
  ·rename_i h2;exact zhM n l _ (zdM H h (by rw [h2];decide))
  ·have hl:=zqv H (f:=f) (many:=l.length) h
   split <;> rename_i e <;> rw [e] at hl
   ·exact⟨rfl,hl.1⟩
   ·exact zhM n _ _ hl
end
def Sm {α:Type} (m:Nat) (st:PS) (r r':α×PS):Prop:=st.tok.at_<=r.2.tok.at_/\(r.2.tok.at_<=m->r'=r)
section
variable {sc sc':Nat->Tk} {m:Nat}
theorem Sm.same {α:Type} {st:PS} {r:α×PS} (h:r.2.tok=st.tok):Sm m st r r:=⟨by rw [h];exact Nat.le_refl _,fun _=>rfl⟩
theorem Sm.eq {α:Type} {st st1:PS} {a:α} {r r':α×PS} (h:Sm m st r r') (e:r=(a,st1)):st.tok.at_<=st1.tok.at_/\(st1.tok.at_<=m->r'=(a,st1)):=by
 subst e;exact h
variable (Mo:∀ a,a<=(sc a).at_) (Sa:∀ a,(sc a).at_<=m->sc' a=sc a)
include Mo Sa
theorem zed (st:PS):st.tok.at_<=(zbe sc st).tok.at_/\((zbe sc st).tok.at_<=m->zbe sc' st=zbe sc st):=by
 refine⟨Nat.le_trans (Nat.le_add_right _ _) (Mo (st.tok.at_+st.tok.text.length)),fun h=>?_⟩;unfold zbe;rw [Sa _ h]
theorem zer (c:Nat) (t:Bs) (st:PS):Sm m st (zaK sc c t st) (zaK sc' c t st):=by
 unfold zaK
 split
 ·exact .same rfl
 ·have:=zed Mo Sa st;exact⟨this.1,fun h=>by rw [this.2 h]⟩
theorem zdB (st:PS):Sm m st (zbv sc st) (zbv sc' st):=by
 unfold zbv
 split
 ·exact .same rfl
 ·have:=zed Mo Sa { st with nodes:=st.nodes+1 };exact⟨this.1,fun h=>by rw [this.2 h]⟩
theorem zlZ (used:Bs->Bool) (st:PS):Sm m st (zby sc used st) (zby sc' used st):=by
 unfold zby
 split
 ·exact .same rfl
 ·split
  ·exact .same rfl
  ·have:=zed Mo Sa st;exact⟨this.1,fun h=>by rw [this.2 h]⟩
theorem zlY:∀ f,(∀ least st,Sm m st (termP sc f least st) (termP sc' f least st))/\(∀ least t st,Sm m st (moreP sc f least t st) (moreP sc' f least t st)) /\
  (∀ st,Sm m st (tightP sc f st) (tightP sc' f st))/\(∀ t st,Sm m st (postsP sc f t st) (postsP sc' f t st))/\(∀ st,Sm m st (simpleP sc f st) (simpleP sc' f st))
 | 0=>by
  refine⟨?_,?_,?_,?_,?_⟩ <;> intros <;> simp only [termP,moreP,tightP,postsP,simpleP] <;> exact .same rfl
 | f+1=>by
  obtain⟨h1,h2,h3,h4,h5⟩:=zlY f;refine⟨fun least st=>?_,fun least t st=>?_,fun st=>?_,fun t st=>?_,fun st=>?_⟩
  ·rw [termP,termP];rcases e:tightP sc f st with ⟨_ | t,s1⟩
   ·obtain⟨m1,e1⟩:=(h3 st).eq e;exact⟨m1,fun h=>by rw [e1 h]⟩
   ·obtain⟨m1,e1⟩:=(h3 st).eq e;obtain⟨m2,e2⟩:=h2 least t s1;refine⟨Nat.le_trans m1 m2,fun h=>?_⟩;rw [e1 (Nat.le_trans m2 h)];exact e2 h
  ·rw [moreP,moreP]
   split
   ·exact .same rfl
   ·rcases e:zbv sc st with ⟨_ | _,s1⟩
    ·obtain⟨m1,e1⟩:=(zdB Mo Sa st).eq e;exact⟨m1,fun h=>by rw [e1 h]⟩
    ·obtain⟨m1,e1⟩:=(zdB Mo Sa st).eq e;dsimp only;rcases e':termP sc f (zaW st) s1 with ⟨_ | r,s2⟩
     ·obtain⟨m2,e2⟩:=(h1 (zaW st) s1).eq e';refine⟨Nat.le_trans m1 m2,fun h=>?_⟩;rw [e1 (Nat.le_trans m2 h)];dsimp only;rw [e2 h]
     ·obtain⟨m2,e2⟩:=(h1 (zaW st) s1).eq e';obtain⟨m3,e3⟩:=h2 least (.mk (UInt8.ofNat (zaW st)) [] [t,r]) s2;refine⟨Nat.le_trans m1 (Nat.le_trans m2 m3),fun h=>?_⟩;rw [e1 (Nat.le_trans m2 (Nat.le_trans m3 h))];dsimp only;rw [e2 (Nat.le_trans m3 h)];exact e3 h
  ·rw [tightP,tightP];rcases e:simpleP sc f st with ⟨_ | t,s1⟩
   ·obtain⟨m1,e1⟩:=(h5 st).eq e;exact⟨m1,fun h=>by rw [e1 h]⟩
   ·obtain⟨m1,e1⟩:=(h5 st).eq e;obtain⟨m2,e2⟩:=h4 t s1;refine⟨Nat.le_trans m1 m2,fun h=>?_⟩;rw [e1 (Nat.le_trans m2 h)];exact e2 h
  ·rw [postsP,postsP]
   split
   ·exact .same rfl
   ·rcases e:zbv sc st with ⟨_ | _,s1⟩
    ·obtain⟨m1,e1⟩:=(zdB Mo Sa st).eq e;exact⟨m1,fun h=>by rw [e1 h]⟩
    ·obtain⟨m1,e1⟩:=(zdB Mo Sa st).eq e;obtain⟨m2,e2⟩:=h4 (.mk (UInt8.ofNat (zdj st)) [] [t]) s1;refine⟨Nat.le_trans m1 m2,fun h=>?_⟩;rw [e1 (Nat.le_trans m2 h)];exact e2 h
  ·rw [simpleP,simpleP]
   split
   ·split
    ·exact .same rfl
    ·rcases e:zbv sc st with ⟨_ | _,s1⟩
     ·obtain⟨m1,e1⟩:=(zdB Mo Sa st).eq e;exact⟨m1,fun h=>by rw [e1 h]⟩
     ·obtain⟨m1,e1⟩:=(zdB Mo Sa st).eq e;exact⟨m1,fun h=>by rw [e1 h]⟩
   ·split
    ·rcases e:zbv sc st with ⟨_ | _,s1⟩
     ·obtain⟨m1,e1⟩:=(zdB Mo Sa st).eq e;exact⟨m1,fun h=>by rw [e1 h]⟩
     ·obtain⟨m1,e1⟩:=(zdB Mo Sa st).eq e;dsimp only;by_cases hk:s1.tok.kind≠5
      ·rw [if_pos hk];refine⟨m1,fun h=>?_⟩;rw [e1 h];dsimp only;rw [if_pos hk]
      ·rw [if_neg hk];by_cases hs:setB s1.tok.text=false
       ·rw [if_pos hs];refine⟨m1,fun h=>?_⟩;rw [e1 h];dsimp only;rw [if_neg hk,if_pos hs]
       ·rw [if_neg hs];obtain⟨m2,e2⟩:=zed Mo Sa s1;rcases e':zaK sc 6 [93] (zbe sc s1) with ⟨_ | _,s2⟩ <;>
        ·obtain⟨m3,e3⟩:=(zer Mo Sa 6 [93] (zbe sc s1)).eq e';refine⟨Nat.le_trans m1 (Nat.le_trans m2 m3),fun h=>?_⟩;rw [e1 (Nat.le_trans m2 (Nat.le_trans m3 h))];dsimp only;rw [if_neg hk,if_neg hs,e2 (Nat.le_trans m3 h),e3 h]
    ·split
     ·obtain⟨m0,e0⟩:=zed Mo Sa { st with deep:=st.deep+1 };rcases e:termP sc f 1 (zbe sc { st with deep:=st.deep+1 }) with ⟨_ | t,s1⟩
      ·obtain⟨m1,e1⟩:=(h1 1 (zbe sc { st with deep:=st.deep+1 })).eq e;refine⟨Nat.le_trans m0 m1,fun h=>?_⟩;rw [e0 (Nat.le_trans m1 h),e1 h]
      ·obtain⟨m1,e1⟩:=(h1 1 (zbe sc { st with deep:=st.deep+1 })).eq e;dsimp only;rcases e':zaK sc 6 [41] { s1 with deep:=s1.deep-1 } with ⟨_ | _,s2⟩ <;>
       ·obtain⟨m3,e3⟩:=(zer Mo Sa 6 [41] { s1 with deep:=s1.deep-1 }).eq e';refine⟨Nat.le_trans m0 (Nat.le_trans m1 m3),fun h=>?_⟩;rw [e0 (Nat.le_trans m1 (Nat.le_trans m3 h)),e1 (Nat.le_trans m3 h)];dsimp only;rw [e3 h]
     ·exact .same rfl
theorem zpP (f many:Nat) (st:PS):Sm m st (zcG sc f many st) (zcG sc' f many st):=by
 have T:=fun least st=>(zlY Mo Sa f).1 least st;have E:∀ (l:LineD) (st:PS),(endP l st).2.tok=st.tok:=fun l st=>by unfold endP;split <;> rfl
 unfold zcG
 split
 ·exact .same rfl
 ·split
  ·exact .same rfl
  ·obtain⟨m0,e0⟩:=zed Mo Sa st
   split
   ·rcases e:zby sc (fun s=>relB s||st.lets s) (zbe sc st) with ⟨_ | nq,s1⟩ <;>
    obtain⟨m1,e1⟩:=(zlZ Mo Sa (fun s=>relB s||st.lets s) (zbe sc st)).eq e
    ·refine⟨Nat.le_trans m0 m1,fun h=>?_⟩;rw [e0 (Nat.le_trans m1 h),e1 h]
    ·dsimp only;rcases e':zaK sc 6 [61] s1 with ⟨_ | _,s2⟩ <;>
     obtain⟨m2,e2⟩:=(zer Mo Sa 6 [61] s1).eq e'
     ·refine⟨Nat.le_trans m0 (Nat.le_trans m1 m2),fun h=>?_⟩;rw [e0 (Nat.le_trans m1 (Nat.le_trans m2 h)),e1 (Nat.le_trans m2 h)];dsimp only;rw [e2 h]
     ·dsimp only;rcases e'':termP sc f 1 s2 with ⟨_ | t,s3⟩ <;>
      obtain⟨m3,e3⟩:=(T 1 s2).eq e''
      ·refine⟨Nat.le_trans m0 (Nat.le_trans m1 (Nat.le_trans m2 m3)),fun h=>?_⟩;have h:s3.tok.at_<=m:=h;rw [e0 (Nat.le_trans m1 (Nat.le_trans m2 (Nat.le_trans m3 h))),e1 (Nat.le_trans m2 (Nat.le_trans m3 h))];dsimp only;rw [e2 (Nat.le_trans m3 h)];dsimp only;rw [e3 h]
      ·dsimp only;refine⟨by rw [E];exact Nat.le_trans m0 (Nat.le_trans m1 (Nat.le_trans m2 m3)),fun h=>?_⟩;rw [E] at h;have h:s3.tok.at_<=m:=h;rw [e0 (Nat.le_trans m1 (Nat.le_trans m2 (Nat.le_trans m3 h))),e1 (Nat.le_trans m2 (Nat.le_trans m3 h))];dsimp only;rw [e2 (Nat.le_trans m3 h)];dsimp only;rw [e3 h]
   ·rcases e:termP sc f 1 (zbe sc st) with ⟨_ | t,s1⟩ <;>
    obtain⟨m1,e1⟩:=(T 1 (zbe sc st)).eq e
    ·refine⟨Nat.le_trans m0 m1,fun h=>?_⟩;rw [e0 (Nat.le_trans m1 h),e1 h]
    ·dsimp only;rcases e':zaK sc 3 [97,115] s1 with ⟨_ | _,s2⟩ <;>
     obtain⟨m2,e2⟩:=(zer Mo Sa 3 [97,115] s1).eq e'
     ·refine⟨Nat.le_trans m0 (Nat.le_trans m1 m2),fun h=>?_⟩;rw [e0 (Nat.le_trans m1 (Nat.le_trans m2 h)),e1 (Nat.le_trans m2 h)];dsimp only;rw [e2 h]
     ·dsimp only;rcases e'':zby sc s2.checks s2 with ⟨_ | nq,s3⟩ <;>
      obtain⟨m3,e3⟩:=(zlZ Mo Sa s2.checks s2).eq e''
      ·refine⟨Nat.le_trans m0 (Nat.le_trans m1 (Nat.le_trans m2 m3)),fun h=>?_⟩;have h:s3.tok.at_<=m:=h;rw [e0 (Nat.le_trans m1 (Nat.le_trans m2 (Nat.le_trans m3 h))),e1 (Nat.le_trans m2 (Nat.le_trans m3 h))];dsimp only;rw [e2 (Nat.le_trans m3 h)];dsimp only;rw [e3 h]
      ·dsimp only;refine⟨by rw [E];exact Nat.le_trans m0 (Nat.le_trans m1 (Nat.le_trans m2 m3)),fun h=>?_⟩;rw [E] at h;have h:s3.tok.at_<=m:=h;rw [e0 (Nat.le_trans m1 (Nat.le_trans m2 (Nat.le_trans m3 h))),e1 (Nat.le_trans m2 (Nat.le_trans m3 h))];dsimp only;rw [e2 (Nat.le_trans m3 h)];dsimp only;rw [e3 h]
theorem zhe (f:Nat):∀ (n:Nat) (l:List LineD) (st:PS) (a:Nat) (e:Int),zcd sc f n l st=(none,a,e)->st.tok.at_<=a/\(a<=m->zcd sc' f n l st=(none,a,e))
 | 0,l,st,a,e,h=>by
  simp only [zcd,Prod.mk.injEq] at h ⊢;exact⟨by omega,fun _=>h⟩
 | n+1,l,st,a,e,h=>by
  rw [zcd] at h ⊢
  split at h
  ·cases h
  ·rename_i h1;rw [if_neg h1]
   split at h
   ·rename_i h2;rw [if_pos h2];obtain⟨m0,e0⟩:=zed Mo Sa st;obtain⟨m1,e1⟩:=zhe f n l _ a e h;exact⟨Nat.le_trans m0 m1,fun hm=>by rw [e0 (Nat.le_trans m1 hm)];exact e1 hm⟩
   ·rename_i h2;rw [if_neg h2];rcases e':zcG sc f l.length st with ⟨_ | x,s1⟩ <;> rw [e'] at h <;>
    obtain⟨m0,e0⟩:=(zpP Mo Sa f l.length st).eq e'
    ·simp only [Prod.mk.injEq,true_and] at h;obtain⟨rfl,rfl⟩:=h;exact⟨m0,fun hm=>by rw [e0 hm]⟩
    ·obtain⟨m1,e1⟩:=zhe f n (l++[x]) s1 a e h;exact⟨Nat.le_trans m0 m1,fun hm=>by rw [e0 (Nat.le_trans m1 hm)];exact e1 hm⟩
end
section
variable {p:UInt8->Bool}
theorem zlO:∀ {d d':Bs},(∀ i,i<=(d.takeWhile p).length->d[i]?=d'[i]?)->d.takeWhile p=d'.takeWhile p
 | [],d',h=>by
  have:=h 0 (Nat.zero_le _)
  cases d' with
  | nil=>rfl
  | cons x r=>simp at this
 | x::r,d',h=>by
  have h0:=h 0 (Nat.zero_le _)
  cases d' with
  | nil=>simp at h0
  | cons y r' =>
   simp only [List.getElem?_cons_zero,Option.some.injEq] at h0;subst h0;rw [List.takeWhile_cons,List.takeWhile_cons]
   split
   ·rename_i hp;rw [List.takeWhile_cons,if_pos hp] at h;congr 1;refine zlO fun i hi=>?_;have:=h (i+1) (by rw [List.length_cons];omega);simpa using this
   ·rfl
theorem zru:∀ {d:Bs} {i:Nat} {c:UInt8},d[i]?=some c->p c=false->(d.takeWhile p).length<=i
 | [],i,c,h,_=>by simp at h
 | x::r,i,c,h,hp=>by
  rw [List.takeWhile_cons]
  split
  ·rename_i hx
   cases i with
   | zero=>simp at h;subst h;rw [hp] at hx;cases hx
   | succ i =>
    have:=zru (d:=r) (i:=i) (by simpa using h) hp;rw [List.length_cons];omega
  ·exact Nat.zero_le _
theorem zpf:∀ {d:Bs} {i:Nat} {c:UInt8},i<(d.takeWhile p).length->d[i]?=some c->p c=true
 | [],i,c,h,_=>by simp at h
 | x::r,i,c,h,hc=>by
  rw [List.takeWhile_cons] at h
  split at h
  ·rename_i hx
   cases i with
   | zero=>simp at hc;subst hc;exact hx
   | succ i=>exact zpf (d:=r) (i:=i) (by rw [List.length_cons] at h;omega) (by simpa using hc)
  ·simp at h
theorem zpK:∀ {d:Bs} {i:Nat},i<(d.takeWhile p).length->∃ c,d[i]?=some c
 | d,i,h=>by
  have:i<d.length:=nL h (List.takeWhile_sublist p).length_le;exact⟨d[i],gE this⟩
theorem zfK (s:Bs) (a:Nat):a<=runE p s a:=Nat.le_add_right _ _
theorem zj2 {s:Bs} {a i:Nat} {c:UInt8} (h:a<=i) (hc:s[i]?=some c) (hp:p c=false):runE p s a<=i:=by
 have:(s.drop a)[i-a]?=some c:=by rw [List.getElem?_drop,show a+(i-a)=i by omega];exact hc
 have:=zru this hp;unfold runE runL;omega
theorem zpY {s:Bs} {a i:Nat} {c:UInt8} (h:a<=i) (hi:i<runE p s a) (hc:s[i]?=some c):p c=true:=by
 unfold runE runL at hi;exact zpf (d:=s.drop a) (i:=i-a) (by omega) (by rw [List.getElem?_drop,show a+(i-a)=i by omega];exact hc)
theorem zof {s:Bs} {a i:Nat} (h:a<=i) (hi:i<runE p s a):∃ c,s[i]?=some c:=by
 unfold runE runL at hi;obtain⟨c,hc⟩:=zpK (p:=p) (d:=s.drop a) (i:=i-a) (by omega);rw [List.getElem?_drop,show a+(i-a)=i by omega] at hc;exact⟨c,hc⟩
theorem zhh {s s':Bs} {a k:Nat} (h:∀ i,i<k->s'[i]?=s[i]?) (hk:runE p s a<k):runL p s' a=runL p s a:=by
 unfold runE at hk;unfold runL at *;refine (zlO fun i hi=>?_).symm;rw [List.getElem?_drop,List.getElem?_drop];exact (h (a+i) (by omega)).symm
theorem zih {s s':Bs} {a k:Nat} (h:∀ i,i<k->s'[i]?=s[i]?) (hk:runE p s a<k):runE p s' a=runE p s a:=by
 unfold runE;rw [zhh h hk]
end
theorem zpQ (s:Bs) (a:Nat):a<=zcZ s a:=by
 unfold zcZ
 split
 ·exact Nat.le_trans (zfK (p:=zaY) s a) (zfK s _)
 ·exact zfK s a
theorem zn9 (k:Nat) (t:Bs) (a:Nat):(zcb k t a).at_=a:=by unfold zcb;split <;> rfl
theorem zlR (s:Bs) (a:Nat):(zcq s a).at_=a:=by
 unfold zcq
 split
 ·rfl
 ·repeat' split
  all_goals first | rfl | exact zn9 _ _ _
theorem zia (s:Bs) (a:Nat):a<=(zaw s a).at_:=by
 unfold zaw;rw [zlR];exact zpQ s a
section
variable {s:Bs} {k:Nat} (h63:s[k]?=some 63)
include h63
theorem zn7 {j:Nat} (hj:j<=k) (h10:j=0\/s[j-1]?=some 10) (hn:∀ i,j<=i->i<k->s[i]?≠some 35) {a:Nat} (ha:a<=k):zcZ s a<=k:=by
 have hb:runE zaY s a<=k:=zj2 ha h63 (by decide);unfold zcZ
 split
 ·rename_i h35;have hlt:runE zaY s a<k:=by
   refine Nat.lt_of_le_of_ne hb fun e=>?_;rw [e,h63] at h35;exact absurd h35 (by decide)
  have hbj:runE zaY s a<j:=by
   refine Nat.lt_of_not_le fun h=>?_;exact hn _ h hlt h35
  rcases h10 with rfl | h10
  ·omega
  ·have:=zj2 (p:=zfS) (s:=s) (a:=runE zaY s a) (i:=j-1) (by omega) h10 (by decide);omega
 ·exact hb
theorem zpM {a:Nat} (ha:a<=k):GdT k (zcq s a):=by
 have hS:∀ (c:Nat) (t:Bs),c≠1->a+t.length<=k->GdT k (zcb c t a):=fun c t hc ht=>by
  unfold zcb
  split
  ·exact⟨ha,by show 0≠1;decide,fun h=>absurd rfl h⟩
  ·exact⟨ha,hc,fun _=>ht⟩
 have hlen:k<s.length:=(List.getElem?_eq_some_iff.1 h63).1;obtain⟨c,hc⟩:∃ c,s[a]?=some c:=⟨s[a]'(by omega),gE _⟩;unfold zcq;rw [hc];dsimp only;by_cases hak:a=k
 ·subst hak;rw [h63] at hc;obtain rfl:=Option.some.inj hc;rw [if_neg (by decide),if_neg (by decide),if_neg (by decide),if_neg (by decide),if_neg]
  ·exact⟨Nat.le_refl _,by show 0≠1;decide,fun h=>absurd rfl h⟩
  ·intro e;have e0:=congrArg (fun l:Bs=>l[0]?) e;simp only [List.getElem?_take,List.getElem?_drop] at e0;rw [if_pos (by decide),Nat.add_zero,h63] at e0;exact absurd e0 (by decide)
 ·have hak:a<k:=by omega
  split
  ·exact⟨ha,by show 2≠1;decide,fun _=>by show a+1<=k;omega⟩
  split
  ·have hr:runE za7 s a<=k:=zj2 ha h63 (by decide)
   split
   ·exact⟨ha,by show 3≠1;decide,fun _=>hr⟩
   ·exact hS _ _ (by decide) hr
  split
  ·exact hS _ _ (by decide) (show runE zbu s a<=k from zj2 ha h63 (by decide))
  split
  ·exact⟨ha,by show 6≠1;decide,fun _=>by show a+1<=k;omega⟩
  split
  ·rename_i e;refine⟨ha,by show 6≠1;decide,fun _=>?_⟩;show a+3<=k;have e1:=congrArg (fun l:Bs=>l[1]?) e;have e2:=congrArg (fun l:Bs=>l[2]?) e;simp only [List.getElem?_take,List.getElem?_drop] at e1 e2;rw [if_pos (by decide)] at e1 e2;have h1:a+1≠k:=fun h=>by rw [h,h63] at e1;exact absurd e1 (by decide)
   have h2:a+2≠k:=fun h=>by rw [h,h63] at e2;exact absurd e2 (by decide)
   omega
  ·exact⟨ha,by show 0≠1;decide,fun h=>absurd rfl h⟩
theorem zmB {j:Nat} (hj:j<=k) (h10:j=0\/s[j-1]?=some 10) (hn:∀ i,j<=i->i<k->s[i]?≠some 35) (hl:s.length<=8192):(zaJ s).1=none/\(zaJ s).2.1<=k:=by
 have H:∀ a,a<=k->GdT k (zaw s a):=fun a ha=>by
  unfold zaw;exact zpM h63 (zn7 h63 hj h10 hn ha)
 unfold zaJ;rw [if_neg (by omega)];exact zhM H _ _ _ (H 0 (Nat.zero_le _))
end
def zbL (c:UInt8):Bool:=zcs c||zbu c||(decide (48<=c.toNat)&&decide (c.toNat<=57))||decide (c=45)||decide (c=94)
theorem zkO {c:UInt8} (h:za7 c=true):zbL c=true:=by
 unfold za7 at h;unfold zbL
 revert h
 cases zcs c <;> cases zbu c <;> cases (decide (48<=c.toNat)&&decide (c.toNat<=57)) <;> cases decide (c=45) <;> simp
theorem zkN {c:UInt8} (h:zbu c=true):zbL c=true:=by
 unfold zbL;rw [h];simp
section
variable {s s':Bs} {k m:Nat} (hs:∀ i,i<k->s'[i]?=s[i]?) (he:runE zbL s m+2<k)
include hs he
omit hs in
theorem run_ends {c:UInt8->Bool} (hc:∀ x,c x=true->zbL x=true) {p:Nat} (hp:p<=m):runE c s p<k:=by
 have hm:=zfK (p:=zbL) s m;refine Nat.lt_of_not_le fun h=>?_;have:runE zbL s m<runE c s p:=by omega
 obtain⟨x,hx⟩:=zof (p:=c) (s:=s) (a:=p) (i:=runE zbL s m) (by omega) this;have h1:=hc x (zpY (by omega) this hx);have h2:runE zbL s m+1<=runE zbL s m:=by
  have:(s.drop m)[(runL zbL s m).length]?=some x:=by rw [List.getElem?_drop];exact hx
  have hg:∀ (d:Bs) (x:UInt8),d[(d.takeWhile zbL).length]?=some x->zbL x=false:=fun d=>by
   induction d with
   | nil=>intro x h;simp at h
   | cons y r ih =>
    intro x h;rw [List.takeWhile_cons] at h
    split at h
    ·rw [List.length_cons,List.getElem?_cons_succ] at h;exact ih x h
    ·rename_i hy;simp at h;subst h;simpa using hy
  rw [hg _ _ this] at h1
  cases h1
 omega
theorem zh9 {a:Nat} (ha:(zaw s a).at_<=m):zaw s' a=zaw s a:=by
 have hm:=zfK (p:=zbL) s m;have hp:zcZ s a<=m:=by unfold zaw at ha;rwa [zlR] at ha
 have hsk:zcZ s' a=zcZ s a:=by
  have hb:runE zaY s a<=zcZ s a:=by
   unfold zcZ
   split
   ·exact zfK s _
   ·exact Nat.le_refl _
  have hbk:runE zaY s a<k:=by omega
  have e1:runE zaY s' a=runE zaY s a:=zih hs hbk;unfold zcZ at hp ⊢;rw [e1,hs (runE zaY s a) (by omega)]
  split
  ·rename_i h35;rw [if_pos h35] at hp;have hnk:runE zfS s (runE zaY s a)<k:=by omega
   exact zih hs hnk
  ·rfl
 unfold zaw;rw [hsk];obtain⟨p,hpp⟩:=nm (zcZ s a);rw [<- hpp] at hp ⊢;unfold zcq;rw [hs p (by omega)];rw [zhh hs (run_ends he (fun x=>zkO) hp),zhh hs (run_ends he (fun x=>zkN) hp)];have e3:(s'.drop p).take 3=(s.drop p).take 3:=by
  apply List.ext_getElem?;intro i;rw [List.getElem?_take,List.getElem?_take,List.getElem?_drop,List.getElem?_drop]
  split
  ·exact hs _ (by omega)
  ·rfl
 rw [e3]
theorem zis {e:Int} (hl:s.length<=8192) (hl':s'.length<=8192) (h:zaJ s=(none,m,e)):zaJ s'=(none,m,e):=by
 have hm:=zfK (p:=zbL) s m;unfold zaJ at h ⊢;rw [if_neg (by omega)] at h ⊢;obtain⟨h1,h2⟩:=zhe (sc:=zaw s) (sc':=zaw s') (m:=m) (zia s) (fun a ha=>zh9 hs he ha) 40000 10000 [] (zeq s) m e h;have:=h2 (Nat.le_refl _);have e0:zeq s'=zeq s:=by
  unfold zeq;rw [zh9 hs he (a:=0) h1]
 rw [e0];exact this
end
section
variable {s:Bs}
def MoS (s:Bs) (a b:PS):Prop:=a.tok.at_<=b.tok.at_/\b.deep=a.deep/\(b.tok=a.tok\/∃ i,b.tok=zaw s i)
theorem MoS.refl (a:PS):MoS s a a:=⟨Nat.le_refl _,rfl,.inl rfl⟩
theorem MoS.trans {a b c:PS} (h:MoS s a b) (k:MoS s b c):MoS s a c:=⟨Nat.le_trans h.1 k.1,k.2.1.trans h.2.1,by
 rcases k.2.2 with e | e
 ·rw [e];exact h.2.2
 ·exact .inr e⟩
theorem zld (s:Bs) (st:PS):st.tok.at_+st.tok.text.length<=(zbe (zaw s) st).tok.at_:=zia s _
theorem ze1 (st:PS):MoS s st (zbe (zaw s) st):=⟨Nat.le_trans (Nat.le_add_right _ _) (zld s st),rfl,.inr ⟨_,rfl⟩⟩
theorem zhx (st:PS):MoS s st (zbv (zaw s) st).2:=by
 unfold zbv
 split
 ·exact .refl _
 ·exact ze1 { st with nodes:=st.nodes+1 }
theorem zcF (k:Nat) (t:Bs) (st:PS):MoS s st (zaK (zaw s) k t st).2:=by
 unfold zaK
 split
 ·exact .refl _
 ·exact ze1 st
theorem zc3:∀ f,(∀ least st,MoS s st (termP (zaw s) f least st).2)/\(∀ least t st,MoS s st (moreP (zaw s) f least t st).2) /\
  (∀ st,MoS s st (tightP (zaw s) f st).2)/\(∀ t st,MoS s st (postsP (zaw s) f t st).2)/\(∀ st,MoS s st (simpleP (zaw s) f st).2)
 | 0=>by
  refine⟨?_,?_,?_,?_,?_⟩ <;> intros <;> simp only [termP,moreP,tightP,postsP,simpleP] <;> exact .refl _
 | f+1=>by
  obtain⟨h1,h2,h3,h4,h5⟩:=zc3 f;refine⟨fun least st=>?_,fun least t st=>?_,fun st=>?_,fun t st=>?_,fun st=>?_⟩
  ·rw [termP];have:=h3 st
   split <;> rename_i e <;> rw [e] at this
   ·exact this
   ·exact this.trans (h2 _ _ _)
  ·rw [moreP]
   split
   ·exact .refl _
   ·have hn:=zhx (s:=s) st
    split <;> rename_i e <;> rw [e] at hn
    ·exact hn
    ·have:=h1 (zaW st) ‹PS›
     split <;> rename_i e2 <;> rw [e2] at this
     ·exact hn.trans this
     ·exact hn.trans (this.trans (h2 _ _ _))
  ·rw [tightP];have:=h5 st
   split <;> rename_i e <;> rw [e] at this
   ·exact this
   ·exact this.trans (h4 _ _)
  ·rw [postsP]
   split
   ·exact .refl _
   ·have hn:=zhx (s:=s) st
    split <;> rename_i e <;> rw [e] at hn
    ·exact hn
    ·exact hn.trans (h4 _ _)
  ·rw [simpleP]
   split
   ·split
    ·exact .refl _
    ·have hn:=zhx (s:=s) st
     split <;> rename_i e <;> rw [e] at hn <;> exact hn
   ·split
    ·have hn:=zhx (s:=s) st
     split <;> rename_i e <;> rw [e] at hn
     ·exact hn
     ·split
      ·exact hn
      ·split
       ·exact hn
       ·rename_i st2 _ _;have hx:=zcF (s:=s) 6 [93] (zbe (zaw s) st2);have hm:=hn.trans (ze1 (s:=s) st2)
        split <;> rename_i e2 <;> rw [e2] at hx <;> exact hm.trans hx
    ·split
     ·have ha:=ze1 (s:=s) { st with deep:=st.deep+1 };have hn:=h1 1 (zbe (zaw s) { st with deep:=st.deep+1 })
      split <;> rename_i st2 e <;> rw [e] at hn
      ·exact⟨Nat.le_trans ha.1 hn.1,by show st2.deep-1=st.deep;have e1:st2.deep=st.deep+1:=hn.2.1.trans ha.2.1;omega,(ha.trans hn).2.2⟩
      ·have hx:=zcF (s:=s) 6 [41] { st2 with deep:=st2.deep-1 };have hm:MoS s st { st2 with deep:=st2.deep-1 }:=⟨Nat.le_trans ha.1 hn.1,by show st2.deep-1=st.deep;have e1:st2.deep=st.deep+1:=hn.2.1.trans ha.2.1;omega,(ha.trans hn).2.2⟩
       split <;> rename_i e2 <;> rw [e2] at hx <;> exact hm.trans hx
     ·exact .refl _
theorem zf1 (used:Bs->Bool) (st:PS):MoS s st (zby (zaw s) used st).2:=by
 unfold zby
 split
 ·exact .refl _
 ·split
  ·exact .refl _
  ·exact ze1 st
theorem zkl (l:LineD) (st:PS):MoS s st (endP l st).2:=by
 unfold endP
 split <;> exact .refl _
theorem zjj {a b:PS} (h:MoS s a b) {f:Bs->Bool}:MoS s a { b with lets:=f }:=h
theorem zf2 {a b:PS} (h:MoS s a b) {f:Bs->Bool}:MoS s a { b with checks:=f }:=h
theorem zmP (f many:Nat) (st:PS):MoS s st (zcG (zaw s) f many st).2:=by
 unfold zcG
 split
 ·exact .refl _
 ·split
  ·exact .refl _
  ·have h0:=ze1 (s:=s) st
   split
   ·have h1:=zf1 (s:=s) (fun t=>relB t||st.lets t) (zbe (zaw s) st)
    split <;> rename_i e <;> rw [e] at h1
    ·exact h0.trans h1
    ·rename_i nq st2;have h2:=zcF (s:=s) 6 [61] st2;have h01:=h0.trans h1
     split <;> rename_i e2 <;> rw [e2] at h2
     ·exact h01.trans h2
     ·rename_i st3;have h3:=(zc3 (s:=s) f).1 1 st3;have h02:=h01.trans h2
      split <;> rename_i e3 <;> rw [e3] at h3
      ·exact zjj (h02.trans h3)
      ·exact (zjj (h02.trans h3)).trans (zkl _ _)
   ·have h1:=(zc3 (s:=s) f).1 1 (zbe (zaw s) st)
    split <;> rename_i e <;> rw [e] at h1
    ·exact h0.trans h1
    ·rename_i t st2;have h2:=zcF (s:=s) 3 [97,115] st2;have h01:=h0.trans h1
     split <;> rename_i e2 <;> rw [e2] at h2
     ·exact h01.trans h2
     ·rename_i st3;have h3:=zf1 (s:=s) st3.checks st3;have h02:=h01.trans h2
      split <;> rename_i e3 <;> rw [e3] at h3
      ·exact zf2 (h02.trans h3)
      ·exact (zf2 (h02.trans h3)).trans (zkl _ _)
theorem zmT {f many:Nat} {st st2:PS} {x:LineD} (h:zcG (zaw s) f many st=(some x,st2)):st.tok.at_+1<=st2.tok.at_:=by
 have ht:1<=st.tok.text.length:=by
  unfold zcG at h
  split at h
  ·cases h
  ·rename_i hc;have hl:zd5 st.tok.text<4:=by
    refine Classical.byContradiction fun hn=>hc (.inr ?_);omega
   cases ht:st.tok.text with
   | nil=>rw [ht] at hl;exact absurd hl (by decide)
   | cons a r=>simp
 have hn:=zld s st;have key:(zbe (zaw s) st).tok.at_<=st2.tok.at_:=by
  have e2:st2=(zcG (zaw s) f many st).2:=by rw [h]
  rw [e2];unfold zcG at h ⊢
  split at h
  ·cases h
  ·rename_i hc;rw [if_neg hc]
   split at h
   ·cases h
   ·rename_i hc2;rw [if_neg hc2]
    split at h
    ·rename_i hc3;rw [if_pos hc3];have h1:=zf1 (s:=s) (fun t=>relB t||st.lets t) (zbe (zaw s) st)
     split <;> rename_i e <;> rw [e] at h1
     ·exact h1.1
     ·rename_i nq st2;have h2:=zcF (s:=s) 6 [61] st2
      split <;> rename_i e2 <;> rw [e2] at h2
      ·exact (h1.trans h2).1
      ·rename_i st3;have h3:=(zc3 (s:=s) f).1 1 st3
       split <;> rename_i e3 <;> rw [e3] at h3
       ·exact (h1.trans (h2.trans h3)).1
       ·exact ((zjj (h1.trans (h2.trans h3))).trans (zkl _ _)).1
    ·rename_i hc3;rw [if_neg hc3];have h1:=(zc3 (s:=s) f).1 1 (zbe (zaw s) st)
     split <;> rename_i e <;> rw [e] at h1
     ·exact h1.1
     ·rename_i t st2;have h2:=zcF (s:=s) 3 [97,115] st2
      split <;> rename_i e2 <;> rw [e2] at h2
      ·exact (h1.trans h2).1
      ·rename_i st3;have h3:=zf1 (s:=s) st3.checks st3
       split <;> rename_i e3 <;> rw [e3] at h3
       ·exact (h1.trans (h2.trans h3)).1
       ·exact ((zf2 (h1.trans (h2.trans h3))).trans (zkl _ _)).1
 omega
theorem zmU {sc:Nat->Tk} {f many:Nat} {st st2:PS} {x:LineD} (h:zcG sc f many st=(some x,st2)):many<40:=by
 unfold zcG at h
 split at h
 ·cases h
 ·split at h
  ·cases h
  ·omega
theorem zib {i:Nat} (h:(zaw s i).kind=2):1<=(zaw s i).text.length:=by
 unfold zaw at h ⊢;unfold zcq at h ⊢;have sh:∀ {k:Nat} {t:Bs} {a:Nat},k≠2->(zcb k t a).kind≠2:=fun {k t a} hk=>by
  unfold zcb;split
  ·exact fun h=>absurd h (by show (0:Nat)≠2;decide)
  ·exact hk
 split at h
 ·exact absurd h (by show (1:Nat)≠2;decide)
 ·rename_i c hc
  split at h
  ·rename_i h10;rw [if_pos h10];exact Nat.le_refl _
  ·split at h
   ·split at h
    ·exact absurd h (by show (3:Nat)≠2;decide)
    ·exact absurd h (sh (by decide))
   ·split at h
    ·exact absurd h (sh (by decide))
    ·split at h
     ·exact absurd h (by show (6:Nat)≠2;decide)
     ·split at h
      ·exact absurd h (by show (6:Nat)≠2;decide)
      ·exact absurd h (by show (0:Nat)≠2;decide)
end
end Go.Proofs.YtkpkdmipjinoaaaGreatDoor
namespace Go.Proofs.YtkpkdmipjinoaaaGreatDoor
open Go.Vc Go.RowKit Go.Sei
def TrmR (g l c:Nat) (s:Bs) (w:World) (r:Option Trm×PS) (e:Ending) (w':World):Prop :=
 ∃ (t:Trm) (q:Option Addr) (cap:Nat),e = .returned (.tuple #[.agg (zad t q cap).toArray,.bool r.1.isSome]) /\
  (∀ x,r.1=some x->x=t/\t.name.length<=8192/\KidsT (fun b=>w.heap.size<=b) w' q t.kids)/\ParB g l c s r.2 w'/\w.grownBy w' (some g)
def zT:Trm := .mk 0 [] []
def znL (g l c:Nat) (s:Bs) (f:Nat):Prop:=∀ (least:Nat) (st:PS) (w:World),least<=5->ParB g l c s st w->4*(s.length-st.tok.at_)+3<=f ->
 Calls Tryz.prog 108 #[At0 g,i64 (least:Nat)] w (TrmR g l c s w (termP (zaw s) f least st))
section
variable {g l c:Nat} {s:Bs} {st:PS} {w w2 X:World}
theorem ParB.upto (h:ParB g l c s st w) (hb:Below (g+1) w w2):ParB g l c s st w2:=by
 have o:=h.ord;have sm:∀ {j},j<=g->w2.heap[j]?=w.heap[j]?:=fun {j} hj=>hb.block j (by omega);have hg:=h.glob;refine⟨(sm (Nat.le_refl _)).trans h.f,h.lm.same (sm (by omega)),h.cm.same (sm (by omega)),o,⟨zaA (sm ?_) hg.op,zaA (sm ?_) hg.st,zaA (sm ?_) hg.sg,zaA (sm ?_) hg.nd,nL hg.lt hb.size⟩,h.len,h.pos,h.nod,h.dep⟩
 all_goals exact Nat.le_trans (by decide) (by omega:4<=g)
theorem zjs {Y:World} (h:w.grownBy X (some g)) (hb:Below w.heap.size X Y):w.grownBy Y (some g) :=
 ⟨hb.os.trans h.os,hb.tape.trans h.tape,hb.output.trans h.output,Nat.le_trans h.size hb.size,fun j hj hn=>(hb.block j hj).trans (h.block j hj hn)⟩
theorem zdn {t:Bs} (h:isP st t=true):st.tok.text.length=t.length:=by
 unfold isP at h;rw [bAT] at h;rw [dT h.2]
theorem zfG {r:Nat} {t:Trm} {q:Option Addr} {cap:Nat} {cs:Array Value} (hr:w.heap.size<=r) (f:X.heap[r]?=some (.cells cs 34 (0,0))) (h3:cs.size=3) (hX:ParB g l c s st X) (gX:w.grownBy X (some g)) (hg:g<w.heap.size) {K:World->Prop}
  (k:∀ Y,ParB g l c s st Y->w.grownBy Y (some g)->Y.heap[r]?=some (.cells (zad t q cap).toArray 34 (0,0))->(∀ j,j≠r->Y.heap[j]?=X.heap[j]?)->Y.heap.size=X.heap.size->K Y) :
  SatR ((storeVar 34 ⟨r,0,none⟩ (.agg (zad t q cap).toArray)).run Tryz.prog X) fun _ w'=>K w':=by
 refine zas (v := .agg (zad t q cap).toArray) k34 f rfl h3 rfl ?_;exact k _ (hX.upto (zaj (Below.refl _ X) (by omega) _)) (zjs gX (zaj (Below.refl _ X) hr _)) (zan f) (fun j hj=>zap hj) (by simp)
structure SimB (w:World) (g l c:Nat) (s:Bs) (st:PS) (tb:Nat) (t:Trm) (q:Option Addr) (cap:Nat) (Y:World):Prop where
 p:ParB g l c s st Y
 r:Y.heap[w.heap.size]?=some (.cells (zad zT none 0).toArray 34 (0,0))
 x:Y.heap[tb]?=some (.cells (zad t q cap).toArray 34 (0,0))
 o:w.grownBy Y (some g)
 lt:w.heap.size<tb
 g:g<w.heap.size
structure AnsB (w:World) (g l c:Nat) (s:Bs) (st:PS) (Y:World):Prop where
 p:ParB g l c s st Y
 r:Y.heap[w.heap.size]?=some (.cells (zad zT none 0).toArray 34 (0,0))
 o:w.grownBy Y (some g)
 g:g<w.heap.size
section
variable {tb:Nat} {t:Trm} {q:Option Addr} {cap:Nat} {Y Z:World} {st':PS}
theorem SimB.ans (h:SimB w g l c s st tb t q cap Y):AnsB w g l c s st Y:=⟨h.p,h.r,h.o,h.g⟩
theorem AnsB.grown (h:AnsB w g l c s st Y) (hZ:ParB g l c s st' Z) (gZ:Y.grownBy Z (some g)):AnsB w g l c s st' Z :=
 ⟨hZ,(gZ.block _ (hlt h.r) (by have:=h.g;simp;omega)).trans h.r,zaf h.o gZ,h.g⟩
theorem SimB.grown (h:SimB w g l c s st tb t q cap Y) (hZ:ParB g l c s st' Z) (gZ:Y.grownBy Z (some g)):SimB w g l c s st' tb t q cap Z :=
 ⟨hZ,(gZ.block _ (hlt h.r) (by have:=h.g;simp;omega)).trans h.r,(gZ.block _ (hlt h.x) (by have:=h.g;have:=h.lt;simp;omega)).trans h.x,zaf h.o gZ,h.lt,h.g⟩
theorem SimB.drew (h:SimB w g l c s st tb t q cap Y):SimB w g l c s st tb t q cap Y.drew :=
 h.grown (h.p.below (Below.refl _ Y).drew) (zag (Below.refl _ Y).drew)
theorem AnsB.box (h:AnsB w g l c s st Y) {cs:Array Value} (h3:cs.size=3) {K:World->Prop} (k:∀ Z,SimB w g l c s st Y.heap.size t q cap Z->Bw Y Z->Z.heap.size=Y.heap.size+1->K Z) :
  SatR ((storeVar 34 ⟨Y.heap.size,0,none⟩ (.agg (zad t q cap).toArray)).run Tryz.prog (Y.alloc (.cells cs 34))) fun _ w'=>K w' :=
 zal (X:=Y) (v := .agg (zad t q cap).toArray) k34 rfl h3 rfl fun Z hbZ fZ sZ =>
  k Z ⟨h.p.below hbZ,zab hbZ h.r,fZ,zaf h.o (zag hbZ),hlt h.r,h.g⟩ hbZ sZ
theorem AnsB.fin (h:AnsB w g l c s st Y) {R:Option Trm×PS} {ok:Bool} (e1:R.1.isSome=ok) (e2:R.2=st) (e3:∀ x,R.1=some x->x=t/\t.name.length<=8192/\KidsT (fun b=>w.heap.size<b) Y q t.kids) :
  SatR ((storeVar 34 ⟨w.heap.size,0,none⟩ (.agg (zad t q cap).toArray)).run Tryz.prog Y) fun _ w'=>∃ us:List Value,us.length=3/\zav w' ⟨w.heap.size,0,none⟩ us/\TrmR g l c s w R (.returned (zcr [.agg us.toArray,.bool ok])) w':=by
 refine zfG (t:=t) (q:=q) (cap:=cap) (Nat.le_refl _) h.r rfl h.p h.o h.g fun Z hZ gZ fZ oZ _=>?_;refine⟨zad t q cap,rfl,zaa fZ,t,q,cap,by rw [e1];rfl,fun x hx=>?_,by rw [e2];exact hZ,gZ⟩;obtain⟨h1,h2,h3⟩:=e3 x hx;exact⟨h1,h2,(h3.by fun b cs ty fr hb hc=>oZ b (by omega)).weak fun b hb=>by omega⟩
theorem AnsB.none (h:AnsB w g l c s st Y) {R:Option Trm×PS} (hR:R=(none,st)) :
  SatR ((storeVar 34 ⟨w.heap.size,0,none⟩ (.agg (zad t q cap).toArray)).run Tryz.prog Y) fun _ w'=>∃ us:List Value,us.length=3/\zav w' ⟨w.heap.size,0,none⟩ us/\TrmR g l c s w R (.returned (zcr [.agg us.toArray,.bool false])) w' :=
 h.fin (by rw [hR];rfl) (by rw [hR]) (fun x hx=>by rw [hR] at hx;cases hx)
theorem AnsB.leaf {b:Bool} (h:AnsB w g l c s st Y) {R:Option Trm×PS} (hR:R=(if b=true then some t else Option.none,st)) (hk:t.kids=[]) (hn:t.name.length<=8192) :
  SatR ((storeVar 34 ⟨w.heap.size,0,Option.none⟩ (.agg (zad t q cap).toArray)).run Tryz.prog Y) fun _ w'=>∃ us:List Value,us.length=3/\zav w' ⟨w.heap.size,0,Option.none⟩ us/\TrmR g l c s w R (.returned (zcr [.agg us.toArray,.bool b])) w':=by
 refine h.fin (by rw [hR];cases b <;> rfl) (by rw [hR]) fun x hx=>?_;rw [hR] at hx
 cases b with
 | false=>cases hx
 | true=>exact⟨(Option.some.inj hx).symm,hn,by rw [hk];exact .nil⟩
end
theorem zl3 {f:Nat} (hT:znL g l c s f) (h:ParB g l c s st w) (hf:4*(s.length-st.tok.at_)<=f) :
  Calls Tryz.prog 240 #[At0 g] w (TrmR g l c s w (simpleP (zaw s) (f+1) st)):=by
 refine cofM 115 [At0 g] (.c .p (.s (.b (.s .p (.d (.c .p (.c .p .p)) (.s .p (.d (.c .p (.c .p (.c .p (.c .p (.c .p .p))))) (.c .p (.d (.s .p (.c .p (.c .p (.c .p .p)))) .p))))))) .p)) Tryz.func240 ?_;obtain⟨R,hR⟩:=nm (simpleP (zaw s) (f+1) st);rw [<- hR];rw [simpleP] at hR;refine⟨Unit,fun _=>⟨[(0,At0 g),(2,At0 w.heap.size)],[]⟩,fun _ X=>AnsB w g l c s st X,⟨(),(cvE rfl rfl),h.below (zba _ _),hnew w _,zag (zba _ _),h.lt⟩,?_⟩;have hlen:=h.len;have hpos:=h.pos;have hdep:=h.dep;rintro _ X hX;refine⟨_,zac (zaa hX.p.f) (i:=1) rfl,?_⟩;refine biE (fun h1=>?_) fun h1=>?_
 ·
  have h1:st.tok.kind=4:=dT ((zaH (b:=4)).symm.trans h1);rw [if_pos h1] at hR;have tl:st.tok.text.length<=8192:=by omega
  refine⟨Nat,fun tb=>⟨[(0,At0 g),(2,At0 w.heap.size),(4,At0 tb)],[]⟩,fun tb Y=>SimB w g l c s st tb (.mk 1 st.tok.text []) none 0 Y,?_,?_⟩
  ·refine⟨_,zac (zaa hX.p.f) (i:=2) rfl,?_⟩;refine⟨zad (.mk 1 st.tok.text []) none 0,rfl,?_⟩;refine hX.box rfl fun Y hY _ _=>?_;exact⟨_,(cvE rfl rfl),hY⟩
  clear hX X;rintro tb Y hY;refine⟨Unit,fun _=>⟨[(0,At0 g),(2,At0 w.heap.size),(4,At0 tb)],[]⟩,fun _ Y=>SimB w g l c s st tb (.mk 1 st.tok.text []) none 0 Y/\R=((if (zbv (zaw s) st).1=true then some (.mk 1 st.tok.text []) else none),(zbv (zaw s) st).2),?_,?_⟩
  ·refine DrawE.ord [] [0,1,2,3,4,5,6,7,8,9,10,11,12,13] (by kernel_rfl) ?_;have hD:=hY.drew;refine⟨_,zac (zaa hD.x) (i:=1) rfl,?_⟩;refine cmo (zhF st.tok.text _) ?_;rintro e _ ⟨rfl,rfl⟩;refine⟨Below.refl _ _,?_⟩;have good:(!relB st.tok.text && !st.lets st.tok.text)=false->R=((if (zbv (zaw s) st).1=true then some (.mk 1 st.tok.text []) else none),(zbv (zaw s) st).2):=fun hn=>by
    rw [hR,hn,if_neg Bool.false_ne_true]
    cases zbv (zaw s) st with
    | mk b st2=>cases b <;> rfl
   refine biE (fun h2=>?_) fun h2=>?_
   ·have h2:(!relB st.tok.text)=true:=h2;refine⟨_,zac (zaa hD.p.f) (i:=4) rfl,?_⟩;refine⟨_,zac (zaa hD.x) (i:=1) rfl,?_⟩;refine⟨_,fun w2 hb=>zeD (hD.p.lm.below hb) st.tok.text,?_⟩;refine biE (fun h3=>?_) fun h3=>?_
    ·have h3:(!st.lets st.tok.text)=true:=h3;rw [h2,h3] at hR;rw [if_pos (by rfl:(true&&true)=true)] at hR;have hE:=hD.drew;refine DrawE.treeQ [2,3] (.op 1 (.alt (.op 2 (.op 0 (.op 3 (.op 4 .nil)))) (.op 0 (.op 2 (.op 3 (.op 4 .nil)))))) (by kernel_rfl) ?_;refine And.intro ?_ ?_
     ·refine cmo (zbV hE.p 112) ?_;rintro e Z ⟨rfl,hZ,gZ⟩;have hE2:=hE.grown hZ gZ;refine⟨_,rfl,zaa hE2.x,hlt hE2.x,?_⟩;exact hE2.ans.none hR
     ·refine⟨_,rfl,zaa hE.x,hlt hE.x,?_⟩;refine cmo (zbV hE.p 112) ?_;rintro e Z ⟨rfl,hZ,gZ⟩;exact (hE.grown hZ gZ).ans.none hR
    ·have h3:(!st.lets st.tok.text)=false:=h3;exact⟨(),(cvE rfl rfl),hD,good (by rw [h3,Bool.and_false])⟩
   ·have h2:(!relB st.tok.text)=false:=h2;refine brF ?_;exact⟨(),(cvE rfl rfl),hD,good (by rw [h2,Bool.false_and])⟩
  clear hY hR Y;rintro _ Y ⟨hY,hR⟩;have hE:=hY.drew;refine DrawE.treeQ [2,3] (.op 1 (.alt (.op 2 (.op 0 (.op 3 (.op 4 .nil)))) (.op 0 (.op 2 (.op 3 (.op 4 .nil)))))) (by kernel_rfl) ?_;refine And.intro ?_ ?_
  ·refine cmo (ziz hE.p) ?_;rintro e2 Z ⟨rfl,hZ,gZ⟩;have hE2:=hE.grown hZ gZ;refine⟨_,rfl,zaa hE2.x,hlt hE2.x,?_⟩;exact hE2.ans.leaf hR rfl tl
  ·refine⟨_,rfl,zaa hE.x,hlt hE.x,?_⟩;refine cmo (ziz hE.p) ?_;rintro e2 Z ⟨rfl,hZ,gZ⟩;exact (hE.grown hZ gZ).ans.leaf hR rfl tl
 have h1:st.tok.kind≠4:=dF ((zaH (b:=4)).symm.trans h1);rw [if_neg h1] at hR;refine cmo (is_c hX.p [91]) ?_;rintro e _ ⟨rfl,rfl⟩;refine biE (fun h2=>?_) fun h2=>?_
 ·
  have h2:isP st [91]=true:=h2;rw [if_pos h2] at hR;rcases hnd:zbv (zaw s) st with ⟨nb,st2⟩;rw [hnd] at hR;refine⟨Unit,fun _=>⟨[(0,At0 g),(2,At0 w.heap.size)],[]⟩,fun _ Y=>AnsB w g l c s st2 Y/\nb=true,?_,?_⟩
  ·refine cmo (ziz hX.p) ?_;rintro e Y ⟨rfl,hY,gY⟩;rw [hnd] at hY ⊢;dsimp only at hY;have hY2:=hX.grown hY gY;refine biE (fun h3=>?_) fun h3=>?_
   ·have h3:(!nb)=true:=h3;have h3:nb=false:=(by simpa using h3);subst h3;refine⟨zad zT none 0,rfl,?_⟩;exact hY2.none hR
   ·have h3:(!nb)=false:=h3;exact⟨(),(cvE rfl rfl),hY2,by simpa using h3⟩
  clear hX X;rintro _ Y ⟨hY,rfl⟩;dsimp only at hR;have hp2:=hY.p.pos;have tl:st2.tok.text.length<=8192:=by omega
  refine⟨Nat,fun tb=>⟨[(0,At0 g),(2,At0 w.heap.size),(5,At0 tb)],[]⟩,fun tb Y=>SimB w g l c s st2 tb (.mk 9 st2.tok.text []) none 0 Y,?_,?_⟩
  ·refine⟨_,zac (zaa hY.p.f) (i:=2) rfl,?_⟩;refine⟨zad (.mk 9 st2.tok.text []) none 0,rfl,?_⟩;refine hY.box rfl fun Z hZ _ _=>?_;exact⟨_,(cvE rfl rfl),hZ⟩
  clear hY Y;rintro tb Z hZ;refine⟨Unit,fun _=>⟨[(0,At0 g),(2,At0 w.heap.size),(5,At0 tb)],[]⟩,fun _ Y=>SimB w g l c s st2 tb (.mk 9 st2.tok.text []) none 0 Y/\st2.tok.kind=5,?_,?_⟩
  ·refine⟨_,zac (zaa hZ.p.f) (i:=1) rfl,?_⟩;refine biE (fun h4=>?_) fun h4=>?_
   ·have h4:(!decide ((st2.tok.kind:Int)=((5:Nat):Int)))=true:=h4;rw [zaH] at h4;have h4:st2.tok.kind≠5:=(by simpa using h4);rw [if_pos h4] at hR;have hE:=hZ.drew;refine DrawE.treeQ [2,3] (.op 1 (.alt (.op 2 (.op 0 (.op 3 (.op 4 .nil)))) (.op 0 (.op 2 (.op 3 (.op 4 .nil)))))) (by kernel_rfl) ?_;refine And.intro ?_ ?_
    ·refine cmo (zbV hE.p 110) ?_;rintro e2 V ⟨rfl,hV,gV⟩;have hE2:=hE.grown hV gV;refine⟨_,rfl,zaa hE2.x,hlt hE2.x,?_⟩;exact hE2.ans.none hR
    ·refine⟨_,rfl,zaa hE.x,hlt hE.x,?_⟩;refine cmo (zbV hE.p 110) ?_;rintro e2 V ⟨rfl,hV,gV⟩;exact (hE.grown hV gV).ans.none hR
   ·have h4:(!decide ((st2.tok.kind:Int)=((5:Nat):Int)))=false:=h4;rw [zaH] at h4;exact⟨(),(cvE rfl rfl),hZ,by simpa using h4⟩
  clear hZ Z;rintro _ Z ⟨hZ,h4⟩;rw [if_neg (fun k=>k h4)] at hR;refine⟨Unit,fun _=>⟨[(0,At0 g),(2,At0 w.heap.size),(5,At0 tb)],[]⟩,fun _ Y=>SimB w g l c s st2 tb (.mk 9 st2.tok.text []) none 0 Y/\setB st2.tok.text=true,?_,?_⟩
  ·refine⟨_,zac (zaa hZ.x) (i:=1) rfl,?_⟩;refine cmo (zmX st2.tok.text Z) ?_;rintro e _ ⟨rfl,rfl⟩;refine biE (fun h5=>?_) fun h5=>?_
   ·have h5:(!setB st2.tok.text)=true:=h5;have h5:setB st2.tok.text=false:=(by simpa using h5);rw [if_pos h5] at hR;have hE:=hZ.drew;refine DrawE.treeQ [2,3] (.op 1 (.alt (.op 2 (.op 0 (.op 3 (.op 4 .nil)))) (.op 0 (.op 2 (.op 3 (.op 4 .nil)))))) (by kernel_rfl) ?_;refine And.intro ?_ ?_
    ·refine cmo (zbV hE.p 112) ?_;rintro e2 V ⟨rfl,hV,gV⟩;have hE2:=hE.grown hV gV;refine⟨_,rfl,zaa hE2.x,hlt hE2.x,?_⟩;exact hE2.ans.none hR
    ·refine⟨_,rfl,zaa hE.x,hlt hE.x,?_⟩;refine cmo (zbV hE.p 112) ?_;rintro e2 V ⟨rfl,hV,gV⟩;exact (hE.grown hV gV).ans.none hR
   ·have h5:(!setB st2.tok.text)=false:=h5;exact⟨(),(cvE rfl rfl),hZ,by simpa using h5⟩
  clear hZ Z;rintro _ Z ⟨hZ,h5⟩;rw [if_neg (by rw [h5];decide)] at hR;refine⟨Unit,fun _=>⟨[(0,At0 g),(2,At0 w.heap.size),(5,At0 tb)],[]⟩,fun _ Y=>SimB w g l c s (nx s st2) tb (.mk 9 st2.tok.text []) none 0 Y,?_,?_⟩
  ·refine cmo (zdl hZ.p) ?_;rintro e Z2 ⟨rfl,hZ2,gZ2⟩;exact⟨(),(cvE rfl rfl),hZ.grown hZ2 gZ2⟩
  clear hZ Z;rintro _ Z hZ;have hE:=hZ.drew;have eR:R=((if (zaK (zaw s) 6 [93] (nx s st2)).1=true then some (.mk 9 st2.tok.text []) else none),(zaK (zaw s) 6 [93] (nx s st2)).2):=by
   rw [hR];show (match zaK (zaw s) 6 [93] (nx s st2) with | (true,st3)=>_ | (false,st3)=>_)=_
   cases zaK (zaw s) 6 [93] (nx s st2) with
   | mk b st3=>cases b <;> rfl
  refine DrawE.treeQ [2,3] (.op 1 (.alt (.op 2 (.op 0 (.op 3 (.op 4 .nil)))) (.op 0 (.op 2 (.op 3 (.op 4 .nil)))))) (by kernel_rfl) ?_;refine And.intro ?_ ?_
  ·refine cmo (zdW hE.p 6 [93]) ?_;rintro e2 V ⟨rfl,hV,gV⟩;have hE2:=hE.grown hV gV;refine⟨_,rfl,zaa hE2.x,hlt hE2.x,?_⟩;exact hE2.ans.leaf eR rfl tl
  ·refine⟨_,rfl,zaa hE.x,hlt hE.x,?_⟩;refine cmo (zdW hE.p 6 [93]) ?_;rintro e2 V ⟨rfl,hV,gV⟩;exact (hE.grown hV gV).ans.leaf eR rfl tl
 have h2:isP st [91]=false:=h2;rw [if_neg (by rw [h2];exact Bool.false_ne_true)] at hR;refine⟨Bool,fun b=>⟨[(0,At0 g),(2,At0 w.heap.size),(75,.bool b)],[]⟩,fun b Y=>AnsB w g l c s st Y/\b=(isP st [40]&&decide (st.deep<50)),?_,?_⟩
 ·refine cmo (is_c hX.p [40]) ?_;rintro e _ ⟨rfl,rfl⟩;refine biE (fun h3=>?_) fun h3=>?_
  ·have h3:isP st [40]=true:=h3;refine⟨_,zac (zaa hX.p.f) (i:=7) rfl,?_⟩;refine⟨decide (st.deep<50),⟨.cons rfl (.cons rfl (.cons ?_ .nil)),rfl⟩,hX,by rw [h3];rfl⟩;show some (Value.bool (decide ((st.deep:Int)<50)))=some (.bool (decide (st.deep<50)));congr 2;rw [decide_eq_decide];omega
  ·have h3:isP st [40]=false:=h3;exact⟨false,(cvE rfl rfl),hX,by rw [h3];rfl⟩
 clear hX X;rintro b X ⟨hX,hb⟩;refine biE (fun hbt=>?_) fun hbf=>?_
 ·
  have hbt:b=true:=hbt;rw [hbt] at hb;rw [if_pos hb.symm] at hR;have hb2:=hb.symm;rw [bAT,dE] at hb2;obtain⟨h3,h4⟩:=hb2;obtain⟨st2,hs2⟩:∃ st2,st2=zbe (zaw s) { st with deep:=st.deep+1 }:=⟨_,rfl⟩;rw [<- hs2] at hR;have d2:st2.deep=st.deep+1:=by rw [hs2];rfl
  have at2:st.tok.at_+1<=st2.tok.at_:=by
   have:=zld s { st with deep:=st.deep+1 };have hl1:=zdn h3;rw [hs2];refine Nat.le_trans ?_ this;show _<=st.tok.at_+st.tok.text.length;rw [hl1];exact Nat.le_refl _
  have hl0:1<=s.length-st.tok.at_:=by
   have hl1:=zdn h3;have:([40]:Bs).length=1:=rfl;omega
  refine⟨_,zac (zaa hX.p.f) (i:=7) rfl,?_⟩;refine⟨((st.deep+1:Nat):Int),(zai (by omega)).trans (by omega),?_⟩;refine hX.p.deep (n:=st.deep+1) (by omega) fun Y hY gY=>?_;have hXY:=hX.grown hY gY;refine⟨Unit,fun _=>⟨[(0,At0 g),(2,At0 w.heap.size)],[]⟩,fun _ Y=>AnsB w g l c s st2 Y,?_,?_⟩
  ·refine cmo (zdl hXY.p) ?_;rintro e Z ⟨rfl,hZ,gZ⟩;rw [hs2];exact⟨(),(cvE rfl rfl),hXY.grown hZ gZ⟩
  clear hXY hY gY Y hX X;rintro _ Z hZ;rcases htm:termP (zaw s) f 1 st2 with ⟨r1,st3⟩;rw [htm] at hR;have hm:=(zc3 (s:=s) f).1 1 st2;rw [htm] at hm;have d3:st3.deep=st.deep+1:=by rw [<- d2];exact hm.2.1
  refine⟨Nat×Trm×Option Addr×Nat,fun y=>⟨[(0,At0 g),(2,At0 w.heap.size),(6,At0 y.1),(7,.bool r1.isSome)],[]⟩,fun y Y=>SimB w g l c s st3 y.1 y.2.1 y.2.2.1 y.2.2.2 Y/\∀ x,r1=some x->x=y.2.1/\y.2.1.name.length<=8192/\KidsT (fun b=>w.heap.size<b) Y y.2.2.1 y.2.1.kids,?_,?_⟩
  ·refine cmo (hT 1 st2 Z (by decide) hZ.p (by omega)) ?_;rw [htm];rintro e V ⟨t,q,cap,rfl,hk,hV,gV⟩;dsimp only at hk hV;have hZV:=hZ.grown hV gV;refine hZV.box rfl fun U hU bU _=>?_;refine⟨(V.heap.size,t,q,cap),(cvE rfl rfl),hU,fun x hx=>?_⟩;obtain⟨k1,k2,k3⟩:=hk x hx;refine⟨k1,k2,(k3.kept bU).weak fun b hb=>?_⟩;have:=hlt hZ.r;omega
  clear hZ Z;rintro⟨tb,t,q,cap⟩ U ⟨hU,hk⟩;dsimp only at hU hk ⊢;refine⟨Unit,fun _=>⟨[(0,At0 g),(2,At0 w.heap.size),(6,At0 tb),(7,.bool r1.isSome)],[]⟩,fun _ Y=>SimB w g l c s { st3 with deep:=st3.deep-1 } tb t q cap Y/\∀ x,r1=some x->x=t/\t.name.length<=8192/\KidsT (fun b=>w.heap.size<b) Y q t.kids,?_,?_⟩
  ·refine⟨_,zac (zaa hU.p.f) (i:=7) rfl,?_⟩;refine⟨((st3.deep-1:Nat):Int),(zai (by omega)).trans (by omega),?_⟩;refine hU.p.deep (n:=st3.deep-1) (by omega) fun T hTb gT=>?_;refine⟨(),(cvE rfl rfl),hU.grown hTb gT,fun x hx=>?_⟩;obtain⟨k1,k2,k3⟩:=hk x hx;have:=hU.g;exact⟨k1,k2,k3.by fun b cs ty fr hb hc=>gT.block b (hlt hc) (by simp;omega)⟩
  clear hU hk U;rintro _ T ⟨hTT,hk⟩;have hE:=hTT.drew;have hkE:∀ x,r1=some x->x=t/\t.name.length<=8192/\KidsT (fun b=>w.heap.size<b) T.drew q t.kids:=fun x hx=>by
   obtain⟨k1,k2,k3⟩:=hk x hx;exact⟨k1,k2,k3.kept (Below.refl _ T).drew⟩
  cases r1 with
  | none =>
   refine DrawE.treeQ [4,6] (.op 1 (.op 2 (.op 3 (.alt (.op 4 (.op 0 (.op 5 (.op 6 (.op 7 .nil))))) (.op 0 (.op 4 (.op 5 (.op 6 (.op 7 .nil))))))))) (by kernel_rfl) ?_;refine brF ?_;refine And.intro ?_ ?_
   ·refine⟨_,rfl,zaa hE.x,hlt hE.x,?_⟩;exact hE.ans.none hR
   ·refine⟨_,rfl,zaa hE.x,hlt hE.x,?_⟩;exact hE.ans.none hR
  | some t1 =>
   obtain⟨k1,k2,k3⟩:=hkE t1 rfl;subst k1;have eR:R=((if (zaK (zaw s) 6 [41] { st3 with deep:=st3.deep-1 }).1=true then some t1 else none),(zaK (zaw s) 6 [41] { st3 with deep:=st3.deep-1 }).2):=by
    rw [hR];dsimp only
    cases zaK (zaw s) 6 [41] { st3 with deep:=st3.deep-1 } with
    | mk b st4=>cases b <;> rfl
   have gw:=hE.g;have fEnd:∀ {N:World},SimB w g l c s (zaK (zaw s) 6 [41] { st3 with deep:=st3.deep-1 }).2 tb t1 q cap N->T.drew.grownBy N (some g)->SatR ((storeVar 34 ⟨w.heap.size,0,none⟩ (.agg (zad t1 q cap).toArray)).run Tryz.prog N) fun _ w'=>∃ us:List Value,us.length=3/\zav w' ⟨w.heap.size,0,none⟩ us/\TrmR g l c s w R (.returned (zcr [.agg us.toArray,.bool (zaK (zaw s) 6 [41] { st3 with deep:=st3.deep-1 }).1])) w':=by
    intro N hN gN;refine hN.ans.fin (by rw [eR];dsimp only;cases (zaK (zaw s) 6 [41] { st3 with deep:=st3.deep-1 }).1 <;> rfl) (by rw [eR]) fun x hx=>?_;rw [eR] at hx;dsimp only at hx
    split at hx
    ·exact⟨(Option.some.inj hx).symm,k2,k3.by fun b cs ty fr hb hc=>gN.block b (hlt hc) (by simp;omega)⟩
    ·cases hx
   refine DrawE.treeQ [4,6] (.op 1 (.op 2 (.op 3 (.alt (.op 4 (.op 0 (.op 5 (.op 6 (.op 7 .nil))))) (.op 0 (.op 4 (.op 5 (.op 6 (.op 7 .nil))))))))) (by kernel_rfl) ?_;refine brT ?_;refine And.intro ?_ ?_
   ·refine cmo (zdW hE.p 6 [41]) ?_;rintro e2 N ⟨rfl,hN,gN⟩;have hE2:=hE.grown hN gN;refine⟨_,rfl,zaa hE2.x,hlt hE2.x,?_⟩;exact fEnd hE2 gN
   ·refine⟨_,rfl,zaa hE.x,hlt hE.x,?_⟩;refine cmo (zdW hE.p 6 [41]) ?_;rintro e2 N ⟨rfl,hN,gN⟩;exact fEnd (hE.grown hN gN) gN
 ·have hbf:b=false:=hbf;rw [hbf] at hb;rw [if_neg (by rw [<- hb];exact Bool.false_ne_true)] at hR;refine⟨zad zT none 0,rfl,?_⟩;refine cmo (zbV hX.p 110) ?_;rintro e2 V ⟨rfl,hV,gV⟩;exact (hX.grown hV gV).none hR
end
theorem zpd {n:Nat} (h:n<=255):u8n n=u8 (UInt8.ofNat n):=by
 unfold u8n u8;rw [UInt8.toNat_ofNat',Nat.mod_eq_of_lt (by omega)]
section
variable {Q:Nat->Prop} {w:World}
theorem KidsT.one {t:Trm} {q:Option Addr} {cap b:Nat} (hb:Q b) (hc:zav w ⟨b,0,none⟩ (zad t q cap)) (hn:t.name.length<=8192) (hk:KidsT Q w q t.kids):KidsT Q w (some ⟨b,0,none⟩) [t] :=
 .mk _ [t] (by show 1<=_;decide) b 0 (.inr rfl) (fun _=>q) (fun _=>cap) (fun i hi=>by
  obtain rfl:i=0:=by have:i<1:=hi;omega
  exact⟨by show t.name.length<=_;omega,hb,hc⟩) (fun i hi=>by
  obtain rfl:i=0:=by have:i<1:=hi;omega
  exact hk)
theorem KidsT.two {t u:Trm} {q p:Option Addr} {cap cp b:Nat} (hb:Q b) (hc:zav w ⟨b,0,none⟩ (zad t q cap++zad u p cp)) (hn:t.name.length<=8192) (hk:KidsT Q w q t.kids) (hn2:u.name.length<=8192) (hk2:KidsT Q w p u.kids):KidsT Q w (some ⟨b,0,none⟩) [t,u]:=by
 have hc2:=zny.1 hc;refine .mk _ [t,u] (by show 2<=_;decide) b 0 (.inr rfl) (fun i=>if i=0 then q else p) (fun i=>if i=0 then cap else cp) (fun i hi=>?_) (fun i hi=>?_)
 ·have hi:i<2:=hi;rcases (by omega:i=0\/i=1) with rfl | rfl
  ·exact⟨by show t.name.length<=_;omega,hb,hc2.1⟩
  ·exact⟨by show u.name.length<=_;omega,hb,hc2.2⟩
 ·have hi:i<2:=hi;rcases (by omega:i=0\/i=1) with rfl | rfl
  ·exact hk
  ·exact hk2
end
def zhn (st:PS):Nat->Nat
 | 0=>0
 | i+1=>if isP st (zb1.getD (6+i) []) then 6+i else zhn st i
theorem zkd (st:PS):∀ i,i<=3->zhn st i<=8
 | 0,_=>Nat.zero_le _
 | i+1,h=>by
  unfold zhn
  split
  ·omega
  ·exact zkd st i (by omega)
theorem zmt {st:PS} (h:zdj st≠0):1<=st.tok.text.length:=by
 unfold zdj at h
 split at h
 ·rename_i h1;rw [zdn h1];decide
 ·split at h
  ·rename_i h1;rw [zdn h1];decide
  ·split at h
   ·rename_i h1;rw [zdn h1];decide
   ·exact absurd rfl h
theorem ziw {st:PS} (h:zaW st≠0):1<=st.tok.text.length/\2<=zaW st/\zaW st<=5/\strL.getD (zaW st) 0=zaW st-1:=by
 unfold zaW at h ⊢
 split
 ·rename_i h1;rw [zdn h1];decide
 ·split
  ·rename_i h1;rw [zdn h1];decide
  ·split
   ·rename_i h1;rw [zdn h1];decide
   ·split
    ·rename_i h1;rw [zdn h1];decide
    ·rename_i h1 h2 h3 h4;rw [if_neg h1,if_neg h2,if_neg h3,if_neg h4] at h;exact absurd rfl h
theorem zmM {s:Bs} {st st2:PS} (h:zbv (zaw s) st=(true,st2)) (hl:1<=st.tok.text.length):st.tok.at_+1<=st2.tok.at_:=by
 unfold zbv at h
 split at h
 ·cases h
 ·have h2:=(Prod.mk.inj h).2;rw [<- h2];have:=zld s { st with nodes:=st.nodes+1 };refine Nat.le_trans ?_ this;show _<=st.tok.at_+st.tok.text.length;omega
section
variable {g l c:Nat} {s:Bs} {st:PS} {w w2 X:World}
theorem SimB.store {tb:Nat} {t t':Trm} {q q':Option Addr} {cap cap':Nat} {Y:World} (h:SimB w g l c s st tb t q cap Y) {K:World->Prop} (k:∀ Z,SimB w g l c s st tb t' q' cap' Z->(∀ j,j≠tb->Z.heap[j]?=Y.heap[j]?)->K Z) :
  SatR ((storeVar 34 ⟨tb,0,none⟩ (.agg (zad t' q' cap').toArray)).run Tryz.prog Y) fun _ w'=>K w' :=
 zfG (t:=t') (q:=q') (cap:=cap') (Nat.le_of_lt h.lt) h.x rfl h.p h.o h.g fun Z hZ gZ fZ oZ _=>k Z ⟨hZ,(oZ _ (by have:=h.lt;omega)).trans h.r,fZ,gZ,h.lt,h.g⟩ oZ
theorem SimB.below {tb:Nat} {t:Trm} {q:Option Addr} {cap:Nat} {Y Z:World} (h:SimB w g l c s st tb t q cap Y) (hb:Bw Y Z):SimB w g l c s st tb t q cap Z :=
 h.grown (h.p.below hb) (zag hb)
theorem zn2 {n:Nat} (hT:znL g l c s n) (h:ParB g l c s st w) (hf:4*(s.length-st.tok.at_)<=n) :
  Calls Tryz.prog 182 #[At0 g] w (TrmR g l c s w (tightP (zaw s) (n+2) st)):=by
 refine cofM 36 [At0 g] (.c .p (.s .p (.s (.b (.l (.s .p (.b (.s .p (.c .p (.c .p (.c .p .p)))))))) .p))) Tryz.func182 ?_;obtain⟨R,hR⟩:=nm (tightP (zaw s) (n+2) st);rw [<- hR];rw [tightP] at hR;refine⟨Unit,fun _=>⟨[(0,At0 g),(2,At0 w.heap.size)],[]⟩,fun _ X=>AnsB w g l c s st X,⟨(),(cvE rfl rfl),h.below (zba _ _),hnew w _,zag (zba _ _),h.lt⟩,?_⟩;rintro _ X hX;refine cmo (zl3 hT hX.p hf) ?_;rintro e V ⟨t,q,cap,rfl,hk,hV,gV⟩;have hm:=(zc3 (s:=s) (n+1)).2.2.2.2 st;rcases hsm:simpleP (zaw s) (n+1) st with ⟨r1,st1⟩;rw [hsm] at hk hV hm hR;dsimp only at hk hV hm hR;have hXs:=hlt hX.r;have hVV:=hX.grown hV gV;refine hVV.box rfl fun U hU bU _=>?_;obtain⟨tb,htb⟩:=nm (V.heap.size);rw [<- htb] at hU ⊢;refine⟨Trm×Option Addr×Nat×Bool×PS×Nat,fun y=>⟨[(0,At0 g),(2,At0 w.heap.size),(4,At0 tb),(5,.bool y.2.2.2.1)],[]⟩,
  fun y Y=>SimB w g l c s y.2.2.2.2.1 tb y.1 y.2.1 y.2.2.1 Y /\
   (y.2.2.2.1=true->y.1.name.length<=8192/\KidsT (fun b=>w.heap.size<b/\b≠tb) Y y.2.1 y.1.kids/\R=postsP (zaw s) y.2.2.2.2.2 y.1 y.2.2.2.2.1/\s.length-y.2.2.2.2.1.tok.at_+1<=y.2.2.2.2.2) /\
   (y.2.2.2.1=false->R=(none,y.2.2.2.2.1)),
  fun y=>if y.2.2.2.1 then y.2.2.2.2.2+1 else 0,(t,q,cap,r1.isSome,st1,n+1),(cvE rfl rfl),?_,?_⟩
 ·refine⟨hU,fun ho=>?_,fun ho=>?_⟩
  ·cases r1 with
   | none=>cases ho
   | some t1 =>
    obtain⟨e1,e2,e3⟩:=hk t1 rfl;refine⟨e2,(e3.there.kept bU).weak fun b hb=>by omega,by rw [hR,<- e1],?_⟩;have h1:=hm.1;dsimp only;omega
  ·cases r1 with
   | none=>exact hR
   | some t1=>cases ho
 clear hk hm hR hU bU hVV hV gV hT hf hsm hXs hX;rintro⟨t,q,cap,ok,st1,f1⟩ Y ⟨hY,hok,hno⟩;dsimp only at hY hok hno ⊢;refine biE (fun ho=>?_) fun ho=>?_
 ·have ho:ok=true:=ho;subst ho;obtain⟨hn,hk,hR,hf1⟩:=hok rfl;clear hok hno;obtain⟨f',rfl⟩:∃ f',f1=f'+1:=⟨f1-1,by omega⟩;rw [postsP] at hR;refine⟨Unit,fun _=>⟨[(0,At0 g),(2,At0 w.heap.size),(4,At0 tb),(5,.bool true),(6,u8n (zdj st1))],[]⟩,fun _ V=>Y=V,?_,?_⟩
  ·refine⟨[.int .u8 6,.int .u8 7,.int .u8 8],rfl,?_⟩;refine⟨Nat,fun i=>⟨[(0,At0 g),(2,At0 w.heap.size),(4,At0 tb),(5,.bool true),(6,u8n (zhn st1 i)),(15,.agg #[.int .u8 6,.int .u8 7,.int .u8 8]),(16,.int .i64 (i:Nat))],[]⟩,fun i V=>i<=3/\Y=V,fun i=>3-i,0,
    (cvE rfl rfl),⟨Nat.zero_le _,rfl⟩,?_⟩
   rintro i _ ⟨hi,rfl⟩;refine biE (fun h1=>?_) fun h1=>?_
   ·have h1:(i:Int)<3:=dT h1;have hget:[Value.int .u8 6,.int .u8 7,.int .u8 8][i*1]?=some (u8n (6+i)):=by
     rcases (by omega:i=0\/i=1\/i=2) with rfl | rfl | rfl <;> rfl
    refine⟨i,rfl,by omega,?_⟩;refine zcR hget ?_;refine⟨6+i,rfl,by omega,?_⟩;refine⟨_,by rw [Nat.mul_one];exact zhf hY.p.glob (by omega),?_⟩;refine cmo (is_c hY.p (zb1.getD (6+i) [])) ?_;rintro e _ ⟨rfl,rfl⟩;refine biE (fun h2=>?_) fun h2=>?_
    ·have h2:isP st1 (zb1.getD (6+i) [])=true:=h2;have e:zhn st1 (i+1)=6+i:=(by rw [zhn,if_pos h2]);refine nxI (by omega) ?_;refine⟨i+1,⟨.cons rfl (.cons rfl (.cons rfl (.cons rfl (.cons (congrArg (fun n:Nat=>some (u8n n)) e.symm) (.cons rfl (.cons rfl .nil)))))),rfl⟩,⟨by omega,rfl⟩,by dsimp only;omega⟩
    ·have h2:isP st1 (zb1.getD (6+i) [])=false:=h2;have e:zhn st1 (i+1)=zhn st1 i:=(by rw [zhn,if_neg (by rw [h2];exact Bool.false_ne_true)]);refine nxI (by omega) ?_;refine⟨i+1,⟨.cons rfl (.cons rfl (.cons rfl (.cons rfl (.cons (congrArg (fun n:Nat=>some (u8n n)) e.symm) (.cons rfl (.cons rfl .nil)))))),rfl⟩,⟨by omega,rfl⟩,by dsimp only;omega⟩
   ·have h1:¬ (i:Int)<3:=dF h1;obtain rfl:i=3:=(by omega);exact⟨(),(cvE rfl rfl),rfl⟩
  rintro _ _ rfl;refine⟨Unit,fun _=>⟨[(0,At0 g),(2,At0 w.heap.size),(4,At0 tb),(6,u8n (zdj st1))],[]⟩,fun _ V=>zdj st1≠0/\Y=V,?_,?_⟩
  ·refine biE (fun h2=>?_) fun h2=>?_
   ·have h2:((zdj st1:Nat):Int)=0:=dT h2;rw [if_pos (by omega)] at hR;refine⟨_,rfl,zaa hY.x,hlt hY.x,?_⟩;exact hY.ans.fin (by rw [hR];rfl) (by rw [hR]) fun x hx=>by
     rw [hR] at hx;exact⟨(Option.some.inj hx).symm,hn,hk.weak fun b hb=>hb.1⟩
   ·have h2:¬ ((zdj st1:Nat):Int)=0:=dF h2;exact⟨(),(cvE rfl rfl),by omega,rfl⟩
  rintro _ _ ⟨hp0,rfl⟩;rw [if_neg hp0] at hR;have hp8:zdj st1<=8:=zkd st1 3 (by decide);have hlen1:=zmt hp0;rcases hne:zbv (zaw s) st1 with ⟨b,st2⟩;rw [hne] at hR;refine⟨Unit,fun _=>⟨[(0,At0 g),(2,At0 w.heap.size),(4,At0 tb),(5,.bool b),(6,u8n (zdj st1))],[]⟩,fun _ N=>SimB w g l c s st2 tb t q cap N/\KidsT (fun b=>w.heap.size<b/\b≠tb) N q t.kids,?_,?_⟩
  ·refine cmo (ziz hY.p) ?_;rw [hne];rintro e N ⟨rfl,hN,gN⟩;have:=hY.g;exact⟨(),(cvE rfl rfl),hY.grown hN gN,hk.by fun b cs ty fr hb hc=>gN.block b (hlt hc) (by simp;omega)⟩
  have hps:=hY.p.pos;clear hY hk Y;rintro _ N ⟨hN,hk⟩;refine⟨_,rfl,zaa hN.x,hlt hN.x,?_⟩;refine⟨⟨by decide,by decide,rfl⟩,zad t q cap,rfl,?_⟩;refine⟨zad (.mk (UInt8.ofNat (zdj st1)) [] [t]) (some ⟨N.heap.size,0,none⟩) 1,?_,?_⟩
  ·show some [u8n (zdj st1),strV [],.slice (some ⟨N.heap.size,0,none⟩) 1 1]=_;rw [zpd (by omega)];rfl
  have hlx:=hlt hN.x;have bN:=zba N (.cells (zad t q cap).toArray 34);have fnb:=hnew N (.cells (zad t q cap).toArray 34);refine (hN.below bN).store fun Z hZ oZ=>?_;refine⟨(.mk (UInt8.ofNat (zdj st1)) [] [t],some ⟨N.heap.size,0,none⟩,1,b,st2,f'),(cvE rfl rfl),⟨hZ,fun hb=>?_,fun hb=>?_⟩,?_⟩
  ·have hb:b=true:=hb;subst hb;have hon:=zmM hne hlen1;have:=hN.lt;refine⟨by show ([]:Bs).length<=_;decide,.one (q:=q) (cap:=cap) ⟨by omega,by omega⟩ ?_ hn ?_,hR,by dsimp only;omega⟩
   ·exact zaa ((oZ _ (by omega)).trans fnb)
   ·exact (hk.kept bN).by fun b cs ty fr hb hc=>oZ b hb.2
  ·have hb:b=false:=hb;subst hb;exact hR
  ·cases b
   ·show 0<f'+1+1;omega
   ·show f'+1<f'+1+1;omega
 ·have ho:ok=false:=ho;subst ho;have hR:=hno rfl;refine⟨zad zT none 0,rfl,?_⟩;exact hY.ans.none hR
end
section
variable {g l c:Nat} {s:Bs} {st:PS} {w w2 X:World}
theorem zpN {n:Nat} (hT:∀ f,f<n+3->znL g l c s f):znL g l c s (n+3):=by
 intro least st w hl5 h hf;refine cofM 46 [At0 g,i64 (least:Nat)] (.c .p (.s .p (.s (.b (.l (.s .p (.b (.c .p (.c .p (.c .p (.s .p (.c .p .p)))))))) ) .p))) Tryz.func108 ?_;obtain⟨R,hR⟩:=nm (termP (zaw s) (n+3) least st);rw [<- hR];rw [termP] at hR;refine⟨Unit,fun _=>⟨[(0,At0 g),(1,i64 (least:Nat)),(4,At0 w.heap.size)],[]⟩,fun _ X=>AnsB w g l c s st X,⟨(),(cvE rfl rfl),h.below (zba _ _),hnew w _,zag (zba _ _),h.lt⟩,?_⟩;rintro _ X hX;refine cmo (zn2 (hT n (by omega)) hX.p (by omega)) ?_;rintro e V ⟨t,q,cap,rfl,hk,hV,gV⟩;have hm:=(zc3 (s:=s) (n+2)).2.2.1 st;rcases hsm:tightP (zaw s) (n+2) st with ⟨r1,st1⟩;rw [hsm] at hk hV hm hR;dsimp only at hk hV hm hR;have hXs:=hlt hX.r;have hVV:=hX.grown hV gV;refine hVV.box rfl fun U hU bU _=>?_;obtain⟨tb,htb⟩:=nm (V.heap.size);rw [<- htb] at hU ⊢;refine⟨Trm×Option Addr×Nat×Bool×PS×Nat,fun y=>⟨[(0,At0 g),(1,i64 (least:Nat)),(4,At0 w.heap.size),(6,At0 tb),(7,.bool y.2.2.2.1)],[]⟩,
  fun y Y=>SimB w g l c s y.2.2.2.2.1 tb y.1 y.2.1 y.2.2.1 Y/\y.2.2.2.2.2<=n+2 /\
   (y.2.2.2.1=true->y.1.name.length<=8192/\KidsT (fun b=>w.heap.size<b/\b≠tb) Y y.2.1 y.1.kids/\R=moreP (zaw s) y.2.2.2.2.2 least y.1 y.2.2.2.2.1/\4*(s.length-y.2.2.2.2.1.tok.at_)+1<=y.2.2.2.2.2) /\
   (y.2.2.2.1=false->R=(none,y.2.2.2.2.1)),
  fun y=>if y.2.2.2.1 then y.2.2.2.2.2+1 else 0,(t,q,cap,r1.isSome,st1,n+2),(cvE rfl rfl),?_,?_⟩
 ·refine⟨hU,Nat.le_refl _,fun ho=>?_,fun ho=>?_⟩
  ·cases r1 with
   | none=>cases ho
   | some t1 =>
    obtain⟨e1,e2,e3⟩:=hk t1 rfl;refine⟨e2,(e3.there.kept bU).weak fun b hb=>by omega,by rw [hR,<- e1],?_⟩;have h1:=hm.1;dsimp only;omega
  ·cases r1 with
   | none=>exact hR
   | some t1=>cases ho
 clear hk hm hR hU bU hVV hV gV hf hsm hXs hX;rintro⟨t,q,cap,ok,st1,f1⟩ Y ⟨hY,hfn,hok,hno⟩;dsimp only at hY hfn hok hno ⊢;refine biE (fun ho=>?_) fun ho=>?_
 ·have ho:ok=true:=ho;subst ho;obtain⟨hn,hk,hR,hf1⟩:=hok rfl;clear hok hno;obtain⟨f',rfl⟩:∃ f',f1=f'+1:=⟨f1-1,by omega⟩;rw [moreP] at hR;have hps:=hY.p.pos;refine⟨Unit,fun _=>⟨[(0,At0 g),(1,i64 (least:Nat)),(4,At0 w.heap.size),(6,At0 tb),(7,.bool true),(8,u8n (zaW st1))],[]⟩,fun _ V=>Y=V,?_,?_⟩
  ·refine cmo (zla hY.p) ?_;rintro e _ ⟨rfl,rfl⟩;exact⟨(),(cvE rfl rfl),rfl⟩
  rintro _ _ rfl;refine⟨Unit,fun _=>⟨[(0,At0 g),(1,i64 (least:Nat)),(4,At0 w.heap.size),(6,At0 tb),(8,u8n (zaW st1))],[]⟩,fun _ V=>zaW st1≠0/\¬ zaW st1-1<least/\Y=V,?_,?_⟩
  ·have stop:(zaW st1=0\/zaW st1-1<least)->∃ us:List Value,us.length=3/\zav Y ⟨tb,0,none⟩ us/\tb<Y.heap.size /\
     SatR ((storeVar 34 ⟨w.heap.size,0,none⟩ (.agg us.toArray)).run Tryz.prog Y) fun _ w'=>∃ us:List Value,us.length=3/\zav w' ⟨w.heap.size,0,none⟩ us/\TrmR g l c s w R (.returned (zcr [.agg us.toArray,.bool true])) w':=by
    intro hc;rw [if_pos hc] at hR;refine⟨_,rfl,zaa hY.x,hlt hY.x,?_⟩;exact hY.ans.fin (by rw [hR];rfl) (by rw [hR]) fun x hx=>by
     rw [hR] at hx;exact⟨(Option.some.inj hx).symm,hn,hk.weak fun b hb=>hb.1⟩
   refine biE (fun h2=>?_) fun h2=>?_
   ·have h2:((zaW st1:Nat):Int)=0:=dT h2;refine brT ?_;exact stop (.inl (by omega))
   have h2:¬ ((zaW st1:Nat):Int)=0:=dF h2;have hp0:zaW st1≠0:=by omega
   obtain⟨_,ho2,ho5,hst⟩:=ziw hp0;refine⟨zaW st1,rfl,by omega,?_⟩;have hsa:=zcC hY.p.glob (k:=zaW st1) (by omega);rw [hst] at hsa;refine⟨_,by rw [Nat.mul_one];exact hsa,?_⟩;refine biE (fun h3=>?_) fun h3=>?_
   ·have h3:((zaW st1-1:Nat):Int)<(least:Int):=dT h3;exact stop (.inr (by omega))
   ·have h3:¬ ((zaW st1-1:Nat):Int)<(least:Int):=dF h3;exact⟨(),(cvE rfl rfl),hp0,by omega,rfl⟩
  rintro _ _ ⟨hp0,hnl,rfl⟩;obtain⟨hlen1,ho2,ho5,hst⟩:=ziw hp0;rw [if_neg (by rintro (h | h);exact hp0 h;exact hnl h)] at hR;rcases hne:zbv (zaw s) st1 with ⟨b,st2⟩;rw [hne] at hR;refine⟨Unit,fun _=>⟨[(0,At0 g),(1,i64 (least:Nat)),(4,At0 w.heap.size),(6,At0 tb),(8,u8n (zaW st1))],[]⟩,fun _ N=>b=true/\SimB w g l c s st2 tb t q cap N/\KidsT (fun b=>w.heap.size<b/\b≠tb) N q t.kids,?_,?_⟩
  ·refine cmo (ziz hY.p) ?_;rw [hne];rintro e N ⟨rfl,hN,gN⟩;have hYN:=hY.grown hN gN;have:=hY.g;refine biE (fun h4=>?_) fun h4=>?_
   ·have h4:(!b)=true:=h4;have h4:b=false:=(by simpa using h4);subst h4;refine⟨zad zT none 0,rfl,?_⟩;exact hYN.ans.none hR
   ·have h4:(!b)=false:=h4;exact⟨(),(cvE rfl rfl),by simpa using h4,hYN,hk.by fun b cs ty fr hb hc=>gN.block b (hlt hc) (by simp;omega)⟩
  have hon:b=true->st1.tok.at_+1<=st2.tok.at_:=fun hb=>by subst hb;exact zmM hne hlen1
  clear hY hk;rintro _ N ⟨rfl,hN,hk⟩;have hon:=hon rfl;dsimp only at hR;rcases htm:termP (zaw s) f' (zaW st1) st2 with ⟨r2,st3⟩;rw [htm] at hR;have hm2:=(zc3 (s:=s) f').1 (zaW st1) st2;rw [htm] at hm2;have hlx:=hlt hN.x;refine⟨Nat×Trm×Option Addr×Nat,fun y=>⟨[(0,At0 g),(1,i64 (least:Nat)),(4,At0 w.heap.size),(6,At0 tb),(7,.bool r2.isSome),(8,u8n (zaW st1)),(9,At0 y.1)],[]⟩,fun y P=>SimB w g l c s st3 tb t q cap P/\KidsT (fun b=>w.heap.size<b/\b≠tb) P q t.kids /\
   P.heap[y.1]?=some (.cells (zad y.2.1 y.2.2.1 y.2.2.2).toArray 34 (0,0))/\∀ x,r2=some x->x=y.2.1/\y.2.1.name.length<=8192/\KidsT (fun b=>w.heap.size<b/\b≠tb) P y.2.2.1 y.2.1.kids,?_,?_⟩
  ·obtain⟨M,hM⟩:=nm (N.alloc (.cells (zad zT none 0).toArray 34));have bM:Bw N M:=by rw [hM];exact zba _ _
   have fm:M.heap[N.heap.size]?=some (.cells (zad zT none 0).toArray 34 (0,0)):=by rw [hM];exact hnew N _
   have sM:M.heap.size=N.heap.size+1:=by rw [hM];exact wz _ _
   have hNM:=hN.below bM;have hkM:=hk.kept bM;refine⟨zaW st1,rfl,by omega,?_⟩;have hsa:=zcC hNM.p.glob (k:=zaW st1) (by omega);rw [hst,hM] at hsa;refine⟨_,by rw [Nat.mul_one];exact hsa,?_⟩;refine⟨((zaW st1:Nat):Int),(zai (by omega)).trans (by omega),?_⟩;have hcall:=hT f' (by omega) (zaW st1) st2 M ho5 hNM.p (by omega);rw [htm,hM] at hcall;refine cmo hcall ?_;rw [<- hM];rintro e P ⟨u,p,cp,rfl,hku,hP,gP⟩;dsimp only at hku hP;have hgw:=hN.g;have hP2:=hNM.grown hP gP;have fmP:=(gP.block _ (hlt fm) (by have:=hN.lt;simp;omega)).trans fm;have sP:=gP.size;refine zfG (t:=u) (q:=p) (cap:=cp) (by have:=hN.lt;omega) fmP rfl hP hP2.o hgw fun O hO gO fO oO sO=>?_;have hlt9:=hN.lt;refine⟨(N.heap.size,u,p,cp),(cvE rfl rfl),⟨hO,(oO _ (by omega)).trans hP2.r,(oO _ (by omega)).trans hP2.x,gO,hlt9,hgw⟩,?_,fO,fun x hx=>?_⟩
   ·have k1:KidsT (fun b=>(w.heap.size<b/\b≠tb)/\b<N.heap.size) N q t.kids:=hk.there;refine (k1.by fun b cs ty fr hb hc=>?_).weak fun b hb=>hb.1;rw [oO b (by omega),gP.block b (by omega) (by simp;omega),bM.block b hb.2]
   ·obtain⟨e1,e2,e3⟩:=hku x hx;refine⟨e1,e2,(e3.by fun b cs ty fr hb hc=>oO b (by omega)).weak fun b hb=>by omega⟩
  clear hN hk;rintro⟨rb2,u,p,cp⟩ O ⟨hO,hkt,fO,hku⟩;dsimp only at fO hku ⊢;refine⟨_,rfl,zaa hO.x,hlt hO.x,?_⟩;refine⟨_,rfl,zaa fO,hlt fO,?_⟩;refine⟨⟨by decide,by decide,rfl⟩,zad t q cap++zad u p cp,rfl,?_⟩;refine⟨zad (.mk (UInt8.ofNat (zaW st1)) [] [t,u]) (some ⟨O.heap.size,0,none⟩) 2,?_,?_⟩
  ·show some [u8n (zaW st1),strV [],.slice (some ⟨O.heap.size,0,none⟩) 2 2]=_;rw [zpd (by omega)];rfl
  have hlo:=hlt hO.x;have bN:=zba O (.cells (zad t q cap++zad u p cp).toArray 34);have fnb:=hnew O (.cells (zad t q cap++zad u p cp).toArray 34);refine (hO.below bN).store fun Z hZ oZ=>?_;refine⟨(.mk (UInt8.ofNat (zaW st1)) [] [t,u],some ⟨O.heap.size,0,none⟩,2,r2.isSome,st3,f'),(cvE rfl rfl),⟨hZ,by dsimp only;omega,fun hb=>?_,fun hb=>?_⟩,?_⟩
  ·cases r2 with
   | none=>cases hb
   | some t2 =>
    obtain⟨e1,e2,e3⟩:=hku t2 rfl;have hat:=hm2.1;have:=hO.lt;refine⟨by show ([]:Bs).length<=_;decide,.two (q:=q) (cap:=cap) (p:=p) (cp:=cp) ⟨by omega,by omega⟩ ?_ hn ?_ e2 ?_,by rw [hR,<- e1],by dsimp only at hat ⊢;omega⟩
    ·exact zaa ((oZ _ (by omega)).trans fnb)
    ·exact (hkt.kept bN).by fun b cs ty fr hb hc=>oZ b hb.2
    ·exact (e3.kept bN).by fun b cs ty fr hb hc=>oZ b hb.2
  ·cases r2 with
   | none=>exact hR
   | some t2=>cases hb
  ·show (if r2.isSome then f'+1 else 0)<f'+1+1
   split <;> omega
 ·have ho:ok=false:=ho;subst ho;have hR:=hno rfl;refine⟨zad zT none 0,rfl,?_⟩;exact hY.ans.none hR
theorem zjX:∀ f,znL g l c s f:=fun f=>by
 induction f using Nat.strongRecOn with
 | ind f ih =>
  match f,ih with
  | 0,_=>exact fun least st w _ _ hf=>absurd hf (by omega)
  | 1,_=>exact fun least st w _ _ hf=>absurd hf (by omega)
  | 2,_=>exact fun least st w _ _ hf=>absurd hf (by omega)
  | n+3,ih=>exact zpN ih
end
structure Oth (g l c:Nat) (w w':World):Prop where
 os:w'.os=w.os
 tape:w'.tape=w.tape
 output:w'.output=w.output
 size:w.heap.size<=w'.heap.size
 block:∀ j,j<w.heap.size->j≠g->j≠l->j≠c->w'.heap[j]?=w.heap[j]?
def zat (k:Nat) (nq:Bs) (t:Trm) (q:Option Addr) (cap:Nat):List Value:=u8n k::strV nq::zad t q cap
def LinR (g l c:Nat) (s:Bs) (w:World) (r:Option LineD×PS) (e:Ending) (w':World):Prop :=
 ∃ (k:Nat) (nq:Bs) (t:Trm) (q:Option Addr) (cap:Nat),e = .returned (.tuple #[.agg (zat k nq t q cap).toArray,.bool r.1.isSome]) /\
  (∀ x,r.1=some x->x=⟨k,nq,t⟩/\k<=3/\nq.length<=8192/\t.name.length<=8192/\KidsT (fun b=>w.heap.size<=b) w' q t.kids)/\ParB g l c s r.2 w'/\Oth g l c w w'
section
variable {g l c:Nat} {s:Bs} {st:PS} {w w2 w3 X:World}
theorem Oth.of_grown (h:w.grownBy w2 (some g)):Oth g l c w w2:=⟨h.os,h.tape,h.output,h.size,fun j hj h1 _ _=>h.block j hj (by simp;omega)⟩
theorem Oth.of_below (h:Bw w w2):Oth g l c w w2:=⟨h.os,h.tape,h.output,h.size,fun j hj _ _ _=>h.block j hj⟩
theorem Oth.trans (h:Oth g l c w w2) (k:Oth g l c w2 w3):Oth g l c w w3 :=
 ⟨k.os.trans h.os,k.tape.trans h.tape,k.output.trans h.output,Nat.le_trans h.size k.size,fun j hj h1 h2 h3=>(k.block j (nL hj h.size) h1 h2 h3).trans (h.block j hj h1 h2 h3)⟩
theorem Oth.then (h:Oth g l c w w2) (k:Below w.heap.size w2 w3):Oth g l c w w3 :=
 ⟨k.os.trans h.os,k.tape.trans h.tape,k.output.trans h.output,Nat.le_trans h.size k.size,fun j hj h1 h2 h3=>(k.block j hj).trans (h.block j hj h1 h2 h3)⟩
theorem zfq (f:Bs->Bool) (nq:Bs):(fun q'=>if q'=nq then some (Value.bool true) else mapB f q')=mapB (setP f nq):=by
 funext q;unfold mapB setP;by_cases h:q=nq
 ·rw [if_pos h,decide_eq_true h];rfl
 ·rw [if_neg h,decide_eq_false h];rfl
theorem ParB.other (h:ParB g l c s st w) {m:Nat} (hb:w.grownBy w2 (some m)) (hm:m≠g) (ho:4<m) {st':PS} (e1:st'.tok=st.tok) (e2:st'.nodes=st.nodes) (e3:st'.deep=st.deep) (e4:st'.e=st.e)
  (hl:MapF keyS w2 l (mapB st'.lets)) (hc:MapF keyS w2 c (mapB st'.checks)):ParB g l c s st' w2:=by
 refine⟨?_,hl,hc,h.ord,h.glob.grown ho hb,h.len,by rw [e1];exact h.pos,by rw [e2];exact h.nod,by rw [e3];exact h.dep⟩;rw [hb.block g h.lt (by simp;omega),h.f];unfold zdk;rw [e1,e2,e3,e4]
theorem ParB.setL (h:ParB g l c s st w) (nq:Bs) {K:World->Prop} (k:∀ Y,ParB g l c s { st with lets:=setP st.lets nq } Y->w.grownBy Y (some l)->K Y) :
  SatR ((Instr.mapUpdate 104 (.map (some l)) (strV nq) (.bool true)).run Tryz.prog w) fun _ w'=>K w':=by
 obtain⟨o,hr,hm⟩:=zbB skey Tryz.underlying104 h.lm nq (.bool true);have og:=h.ord;have gr:=zeG w l o;refine SatR.mk hr (k _ (h.other gr (by omega) og.1 rfl rfl rfl rfl (by rw [zfq] at hm;exact hm) (h.cm.same (gr.block c (zb5 h.cm) (by simp;omega)))) gr)
theorem ParB.setC (h:ParB g l c s st w) (nq:Bs) {K:World->Prop} (k:∀ Y,ParB g l c s { st with checks:=setP st.checks nq } Y->w.grownBy Y (some c)->K Y) :
  SatR ((Instr.mapUpdate 104 (.map (some c)) (strV nq) (.bool true)).run Tryz.prog w) fun _ w'=>K w':=by
 obtain⟨o,hr,hm⟩:=zbB skey Tryz.underlying104 h.cm nq (.bool true);have og:=h.ord;have gr:=zeG w c o;refine SatR.mk hr (k _ (h.other gr (by omega) (by omega) rfl rfl rfl rfl (h.lm.same (gr.block l (zb5 h.lm) (by simp;omega))) (by rw [zfq] at hm;exact hm)) gr)
structure LinB (w:World) (g l c:Nat) (k:Nat) (nq:Bs) (t:Trm) (q:Option Addr) (cap:Nat) (Y:World):Prop where
 p:Y.heap[w.heap.size]?=some (.cells #[At0 g] 103 (0,0))
 r:Y.heap[w.heap.size+1]?=some (.cells (zat 0 [] zT none 0).toArray 62 (0,0))
 x:Y.heap[w.heap.size+2]?=some (.cells (zat k nq t q cap).toArray 62 (0,0))
 o:Oth g l c w Y
theorem LinB.grown {k:Nat} {nq:Bs} {t:Trm} {q:Option Addr} {cap m:Nat} {Y Z:World} (h:LinB w g l c k nq t q cap Y) (hm:m=g\/m=l\/m=c) (hg:m<w.heap.size) (hb:Y.grownBy Z (some m)):LinB w g l c k nq t q cap Z:=by
 have sm:∀ {j:Nat} {ob:Obj},w.heap.size<=j->Y.heap[j]?=some ob->Z.heap[j]?=some ob:=fun {j ob} hj hk=>(hb.block j (hlt hk) (by simp;omega)).trans hk;refine⟨sm (Nat.le_refl _) h.p,sm (by omega) h.r,sm (by omega) h.x,h.o.trans ⟨hb.os,hb.tape,hb.output,hb.size,fun j hj h1 h2 h3=>hb.block j hj (by simp;omega)⟩⟩
theorem LinB.below {k:Nat} {nq:Bs} {t:Trm} {q:Option Addr} {cap:Nat} {Y Z:World} (h:LinB w g l c k nq t q cap Y) (hb:Bw Y Z):LinB w g l c k nq t q cap Z :=
 ⟨zab hb h.p,zab hb h.r,zab hb h.x,h.o.trans (.of_below hb)⟩
theorem LinB.store {k:Nat} {nq:Bs} {t:Trm} {q:Option Addr} {cap:Nat} {Y:World} (h:LinB w g l c k nq t q cap Y) (hY:ParB g l c s st Y) (hg:g<w.heap.size) {k':Nat} {nq':Bs} {t':Trm} {q':Option Addr} {cap':Nat} {K:World->Prop}
  {Te:TypeId} {o:Nat} {v:Value} {iT:TI} (hT:TIok Tryz.prog Te iT) (hv:v.cells.size=iT.size) (ho:o+v.cells.size<=5) (h1:v.cells.toList.all Value.oneCell'=true)
  (e:(zat k nq t q cap).take o++v.cells.toList++(zat k nq t q cap).drop (o+v.cells.size)=zat k' nq' t' q' cap')
  (kk:∀ Z,ParB g l c s st Z->LinB w g l c k' nq' t' q' cap' Z->(∀ j,j≠w.heap.size+2->Z.heap[j]?=Y.heap[j]?)->Z.heap.size=Y.heap.size->K Z) :
  SatR ((storeVar Te ⟨w.heap.size+2,o,none⟩ v).run Tryz.prog Y) fun _ w'=>K w':=by
 refine zbs hT h.x (o:=o) (v:=v) hv (by show o+v.cells.size<=5;exact ho) h1 fun Z fZ gZ sZ=>?_;have sm:∀ j,j≠w.heap.size+2->Z.heap[j]?=Y.heap[j]?:=fun j hj=>by
  by_cases hl:j<Y.heap.size
  ·exact gZ.block j hl (by simp;omega)
  ·rw [Array.getElem?_eq_none (by omega),Array.getElem?_eq_none (by omega)]
 have bZ:Below (g+1) Y Z:=⟨gZ.os,gZ.tape,gZ.output,gZ.size,fun j hj=>sm j (by omega)⟩;have bW:Below w.heap.size Y Z:=⟨gZ.os,gZ.tape,gZ.output,gZ.size,fun j hj=>sm j (by omega)⟩;refine kk Z (hY.upto bZ) ⟨(sm _ (by omega)).trans h.p,(sm _ (by omega)).trans h.r,?_,h.o.then bW⟩ sm sZ;rw [fZ];have:(zat k nq t q cap).toArray.toList=zat k nq t q cap:=rfl;rw [this,e]
theorem LinB.fin {k:Nat} {nq:Bs} {t:Trm} {q:Option Addr} {cap:Nat} {Y:World} (h:LinB w g l c k nq t q cap Y) (hY:ParB g l c s st Y) (hg:g<w.heap.size) {R:Option LineD×PS} {ok:Bool} {k':Nat} {nq':Bs} {t':Trm} {q':Option Addr} {cap':Nat} (e1:R.1.isSome=ok) (e2:R.2=st)
  (e3:∀ x,R.1=some x->x=⟨k',nq',t'⟩/\k'<=3/\nq'.length<=8192/\t'.name.length<=8192/\KidsT (fun b=>w.heap.size+2<b) Y q' t'.kids) :
  SatR ((storeVar 62 ⟨w.heap.size+1,0,none⟩ (.agg (zat k' nq' t' q' cap').toArray)).run Tryz.prog Y) fun _ w'=>∃ us:List Value,us.length=5/\zav w' ⟨w.heap.size+1,0,none⟩ us/\LinR g l c s w R (.returned (zcr [.agg us.toArray,.bool ok])) w':=by
 refine zas (v := .agg (zat k' nq' t' q' cap').toArray) k62 h.r rfl rfl rfl ?_;have b1:=zaj (B:=w.heap.size) (Below.refl _ Y) (Nat.le_succ w.heap.size) (zat k' nq' t' q' cap').toArray;have b2:=zaj (B:=g+1) (Below.refl _ Y) (by omega:g+1<=w.heap.size+1) (zat k' nq' t' q' cap').toArray;refine⟨zat k' nq' t' q' cap',rfl,zaa (zan h.r),k',nq',t',q',cap',by rw [e1];rfl,fun x hx=>?_,by rw [e2];exact hY.upto b2,h.o.then b1⟩;obtain⟨h1,h2,h3,h4,h5⟩:=e3 x hx;exact⟨h1,h2,h3,h4,(h5.by fun b cs ty fr hb hc=>zap (by omega)).weak fun b hb=>by omega⟩
end
section
variable {g l c:Nat} {s:Bs} {st:PS} {w w2 w3 X:World}
theorem ziF {used:Bs->Bool} {nq:Bs} {st2:PS} (h:zby (zaw s) used st=(some nq,st2)) (hp:st.tok.at_+st.tok.text.length<=s.length):nq.length<=s.length:=by
 unfold zby at h
 split at h
 ·cases h
 ·split at h
  ·cases h
  ·rw [<- Option.some.inj (Prod.mk.inj h).1];omega
def CutL (g l c:Nat) (s:Bs) (w:World) (R:Option LineD×PS) (ok:Bool) (k:Nat) (nq:Bs) (t:Trm) (q:Option Addr) (cap:Nat) (st':PS) (Y:World):Prop :=
 ParB g l c s st' Y/\LinB w g l c k nq t q cap Y/\(ok=true->R=endP ⟨k,nq,t⟩ st'/\k<=3/\nq.length<=8192/\t.name.length<=8192/\KidsT (fun b=>w.heap.size+2<b) Y q t.kids)/\(ok=false->R=(none,st'))
theorem zql (many:Nat) (h:ParB g l c s st w):Calls Tryz.prog 46 #[At0 g,i64 (many:Nat)] w (LinR g l c s w (zcG (zaw s) 40000 many st)):=by
 refine cofM 112 [At0 g,i64 (many:Nat)] (.s .p (.c .p (.s .p (.s .p (.s .p (.s .p (.s .p (.c .p (.c .p .p))))))))) Tryz.func46 ?_;obtain⟨R,hR⟩:=nm (zcG (zaw s) 40000 many st);rw [<- hR];unfold zcG at hR;have hgw:=h.lt;have hlen:=h.len;have hpos:=h.pos;have og:=h.ord;refine⟨Unit,fun _=>⟨[(1,i64 (many:Nat)),(2,At0 w.heap.size),(4,At0 (w.heap.size+1)),(6,At0 (w.heap.size+2))],[]⟩,fun _ Y=>ParB g l c s st Y/\LinB w g l c 0 [] zT none 0 Y,?_,?_⟩
 ·obtain⟨W1,e1⟩:=nm (w.alloc (.cells #[At0 g] 103));have n1:W1.heap.size=w.heap.size+1:=by rw [e1];exact wz _ _
  have f1:W1.heap[w.heap.size]?=some (.cells #[At0 g] 103 (0,0)):=by rw [e1];exact hnew w _
  have b1:Bw w W1:=by rw [e1];exact zba _ _
  obtain⟨W2,e2⟩:=nm (W1.alloc (.cells (zat 0 [] zT none 0).toArray 62));have n2:W2.heap.size=w.heap.size+2:=by rw [e2,wz,n1]
  have f2:W2.heap[w.heap.size+1]?=some (.cells (zat 0 [] zT none 0).toArray 62 (0,0)):=by rw [e2,<- n1];exact hnew W1 _
  have b2:Bw W1 W2:=by rw [e2];exact zba _ _
  obtain⟨W3,e3⟩:=nm (W2.alloc (.cells (zat 0 [] zT none 0).toArray 62));have f3:W3.heap[w.heap.size+2]?=some (.cells (zat 0 [] zT none 0).toArray 62 (0,0)):=by rw [e3,<- n2];exact hnew W2 _
  have b3:Bw W2 W3:=by rw [e3];exact zba _ _
  have b13:=zst b1 (zst b2 b3);refine⟨(),⟨.cons rfl (.cons ?_ (.cons ?_ (.cons ?_ .nil))),rfl⟩,?_⟩
  ·rfl
  ·show some (At0 (w.alloc (.cells #[At0 g] 103)).heap.size)=_;rw [wz]
  ·show some (At0 ((w.alloc (.cells #[At0 g] 103)).alloc (.cells (zat 0 [] zT none 0).toArray 62)).heap.size)=_;rw [wz,wz]
  ·show _/\_;have key:ParB g l c s st W3/\LinB w g l c 0 [] zT none 0 W3:=⟨h.below b13,zab b3 (zab b2 f1),zab b3 f2,f3,.of_below b13⟩;rw [e3,e2,e1] at key;exact key
 rintro _ Y ⟨hY,lY⟩;dsimp only;refine⟨_,zac (zaa lY.p) (i:=0) rfl,?_⟩;refine⟨_,zac (zaa hY.f) (i:=2) rfl,?_⟩;refine cmo (zko st.tok.text Y hY.glob) ?_;rintro e _ ⟨rfl,rfl⟩;have bD:=(Below.refl Y.heap.size Y).drew;have hD:=hY.below bD;have lD:=lY.below bD;have sz0:w.heap.size+2<Y.heap.size:=hlt lY.x;have bad:∀ n:Int,R=(none,zc4 n st)->∀ {Z:World},ParB g l c s (zc4 n st) Z->Y.drew.grownBy Z (some g)->SatR ((storeVar 62 ⟨w.heap.size+1,0,none⟩ (.agg (zat 0 [] zT none 0).toArray)).run Tryz.prog Z) fun _ w'=>∃ us:List Value,us.length=5/\zav w' ⟨w.heap.size+1,0,none⟩ us/\LinR g l c s w R (.returned (zcr [.agg us.toArray,.bool false])) w':=by
  intro n hR Z hZ gZ;exact (lD.grown (.inl rfl) hgw gZ).fin hZ hgw (by rw [hR];rfl) (by rw [hR]) (fun x hx=>by rw [hR] at hx;cases hx)
 refine⟨_,zac (zaa lY.p) (i:=0) rfl,?_⟩;refine⟨_,zac (zaa hY.f) (i:=1) rfl,?_⟩;have r4:(st.tok.kind≠3\/zd5 st.tok.text ≥ 4)->R=(none,zc4 110 st):=fun hc=>by rw [hR,if_pos hc]
 refine biE (fun h1=>?_) fun h1=>?_
 ·have h1:(!decide ((st.tok.kind:Int)=((3:Nat):Int)))=true:=h1;rw [zaH] at h1;have hR:=r4 (.inl (by simpa using h1));refine brT ?_;refine DrawE.treeQ [2,3] (.op 1 (.alt (.op 2 (.op 0 (.op 3 (.op 4 .nil)))) (.op 0 (.op 2 (.op 3 (.op 4 .nil)))))) (by kernel_rfl) ?_;refine⟨_,zac (zaa lD.p) (i:=0) rfl,?_⟩;refine And.intro ?_ ?_
  ·refine cmo (zbV hD 110) ?_;rintro e Z ⟨rfl,hZ,gZ⟩;have lZ:=lD.grown (.inl rfl) hgw gZ;refine⟨_,rfl,zaa lZ.x,hlt lZ.x,?_⟩;exact bad 110 hR hZ gZ
  ·refine⟨_,rfl,zaa lD.x,hlt lD.x,?_⟩;refine cmo (zbV hD 110) ?_;rintro e Z ⟨rfl,hZ,gZ⟩;exact bad 110 hR hZ gZ
 have h1:(!decide ((st.tok.kind:Int)=((3:Nat):Int)))=false:=h1;rw [zaH] at h1;have h1:st.tok.kind=3:=by simpa using h1
 have hl4:=zoC st.tok.text;refine biE (fun h2=>?_) fun h2=>?_
 ·have h2:zf8 st.tok.text<0:=dT h2;have hR:=r4 (.inr (by unfold zf8 at h2;split at h2 <;> omega));refine DrawE.treeQ [2,3] (.op 1 (.alt (.op 2 (.op 0 (.op 3 (.op 4 .nil)))) (.op 0 (.op 2 (.op 3 (.op 4 .nil)))))) (by kernel_rfl) ?_;refine⟨_,zac (zaa lD.p) (i:=0) rfl,?_⟩;refine And.intro ?_ ?_
  ·refine cmo (zbV hD 110) ?_;rintro e Z ⟨rfl,hZ,gZ⟩;have lZ:=lD.grown (.inl rfl) hgw gZ;refine⟨_,rfl,zaa lZ.x,hlt lZ.x,?_⟩;exact bad 110 hR hZ gZ
  ·refine⟨_,rfl,zaa lD.x,hlt lD.x,?_⟩;refine cmo (zbV hD 110) ?_;rintro e Z ⟨rfl,hZ,gZ⟩;exact bad 110 hR hZ gZ
 have h2:¬ zf8 st.tok.text<0:=dF h2;have hk4:zd5 st.tok.text<4:=by unfold zf8 at h2;split at h2 <;> omega
 have hz:zf8 st.tok.text=((zd5 st.tok.text:Nat):Int):=by unfold zf8;rw [if_pos hk4]
 rw [if_neg (by rintro (h | h);exact h h1;omega)] at hR;rw [hz];refine biE (fun h3=>?_) fun h3=>?_
 ·have h3:(40:Int)<=(many:Int):=dT h3;rw [if_pos (by omega)] at hR;refine DrawE.treeQ [2,3] (.op 1 (.alt (.op 2 (.op 0 (.op 3 (.op 4 .nil)))) (.op 0 (.op 2 (.op 3 (.op 4 .nil)))))) (by kernel_rfl) ?_;refine⟨_,zac (zaa lD.p) (i:=0) rfl,?_⟩;refine And.intro ?_ ?_
  ·refine cmo (zbV hD 5) ?_;rintro e Z ⟨rfl,hZ,gZ⟩;have lZ:=lD.grown (.inl rfl) hgw gZ;refine⟨_,rfl,zaa lZ.x,hlt lZ.x,?_⟩;exact bad 5 hR hZ gZ
  ·refine⟨_,rfl,zaa lD.x,hlt lD.x,?_⟩;refine cmo (zbV hD 5) ?_;rintro e Z ⟨rfl,hZ,gZ⟩;exact bad 5 hR hZ gZ
 have h3:¬ (40:Int)<=(many:Int):=dF h3;rw [if_neg (by omega)] at hR;clear bad r4 hD lD bD;obtain⟨st1,hs1⟩:=nm (nx s st);obtain⟨k,hkk⟩:=nm (zd5 st.tok.text);rw [show zbe (zaw s) st=st1 from hs1.symm,<- hkk,show st.lets=st1.lets by rw [hs1];rfl] at hR;rw [<- hkk] at hk4 ⊢;refine⟨_,zac (zaa lY.p) (i:=0) rfl,?_⟩;refine cmo (zdl hY) ?_;rw [show nx s st=st1 from hs1.symm];rintro e Z ⟨rfl,hZ,gZ⟩;have lZ:=lY.grown (.inl rfl) hgw gZ;refine⟨(k:Int),zjR (by omega),?_⟩;refine lZ.store hZ hgw (k':=k) (nq':=[]) (t':=zT) (q':=none) (cap':=0) (o:=0) (v:=u8n k) k5 rfl (by show 0+1<=5;decide) rfl rfl fun V hV lV _ _=>?_;refine⟨Unit,fun _=>⟨[(2,At0 w.heap.size),(4,At0 (w.heap.size+1)),(6,At0 (w.heap.size+2))],[]⟩,fun _ Y=>ParB g l c s st1 Y/\LinB w g l c k [] zT none 0 Y,⟨(),(cvE rfl rfl),hV,lV⟩,?_⟩;clear hV lV hZ lZ gZ hY lY sz0 h2 hz h1 hpos h;rintro _ Y ⟨hY,lY⟩;dsimp only;refine⟨Bool×Nat×Bs×Trm×Option Addr×Nat×PS,fun y=>⟨[(2,At0 w.heap.size),(4,At0 (w.heap.size+1)),(6,At0 (w.heap.size+2)),(8,.bool y.1)],[]⟩,fun y Y=>CutL g l c s w R y.1 y.2.1 y.2.2.1 y.2.2.2.1 y.2.2.2.2.1 y.2.2.2.2.2.1 y.2.2.2.2.2.2 Y,?_,?_⟩
 ·have hsz:w.heap.size+2<Y.heap.size:=hlt lY.x;have hpos:=hY.pos;refine⟨_,zac (zaa lY.x) (i:=0) rfl,?_⟩;refine biE (fun h4=>?_) fun h4=>?_
  ·
   have h4:(k:Int)=0:=dT h4;obtain rfl:k=0:=by omega
   rw [if_pos rfl] at hR;refine⟨_,zac (zaa lY.p) (i:=0) rfl,?_⟩;refine cmo (zlh hY lY.p) ?_;rintro e Z ⟨rfl,hZ,gZ⟩;rcases hnm:zby (zaw s) (fun t=>relB t||st1.lets t) st1 with ⟨on,st2⟩;rw [hnm] at hR hZ;dsimp only at hZ hR ⊢;have lZ:=lY.grown (.inl rfl) hgw gZ;refine lZ.store hZ hgw (k':=0) (nq':=on.getD []) (t':=zT) (q':=none) (cap':=0) (o:=1) (v:=strV (on.getD [])) k9 rfl (by show 1+1<=5;decide) rfl rfl fun V hV lV _ sV=>?_
   cases on with
   | none =>
    refine brF ?_;refine brF ?_;exact⟨(false,0,[],zT,none,0,st2),(cvE rfl rfl),hV,lV,fun h=>absurd h Bool.false_ne_true,fun _=>hR⟩
   | some nq =>
    have hnl:=ziF hnm hpos;dsimp only at hR;refine brT ?_;refine⟨_,zac (zaa lV.p) (i:=0) rfl,?_⟩;refine cmo (zdW hV 6 [61]) ?_;rintro e U ⟨rfl,hU,gU⟩;rcases hex:zaK (zaw s) 6 [61] st2 with ⟨oe,st3⟩;rw [hex] at hR hU;dsimp only at hU hR ⊢;have lU:=lV.grown (.inl rfl) hgw gU
    cases oe with
    | false =>
     refine brF ?_;exact⟨(false,0,nq,zT,none,0,st3),(cvE rfl rfl),hU,lU,fun h=>absurd h Bool.false_ne_true,fun _=>hR⟩
    | true =>
     dsimp only at hR;refine brT ?_;have su:w.heap.size+2<U.heap.size:=hlt lU.x;refine⟨_,zac (zaa lU.p) (i:=0) rfl,?_⟩;refine cmo (zjX 40000 1 st3 U (by decide) hU (by have:=hU.len;omega)) ?_;rintro e T ⟨t,q,cap,rfl,hk,hT,gT⟩;rcases htm:termP (zaw s) 40000 1 st3 with ⟨ot,st4⟩;rw [htm] at hk hT hR;dsimp only at hk hT hR ⊢;have lT:=lU.grown (.inl rfl) hgw gT;refine lT.store hT hgw (k':=0) (nq':=nq) (t':=t) (q':=q) (cap':=cap) (o:=2) (v := .agg (zad t q cap).toArray) k34 rfl (by show 2+3<=5;decide) rfl rfl fun P hP lP oP sP=>?_;refine DrawE.ord [6] [0,1,2,3,4,5,6] (by kernel_rfl) ?_;have bE:=(Below.refl P.heap.size P).drew;have hE:=hP.below bE;have lE:=lP.below bE;refine⟨_,zac (zaa lE.p) (i:=0) rfl,?_⟩;refine⟨_,zac (zaa hE.f) (i:=4) rfl,?_⟩;refine⟨_,zac (zaa lE.x) (i:=1) rfl,?_⟩;refine hE.setL nq fun N hN gN=>?_;have lN:=lE.grown (.inr (.inl rfl)) (by omega) gN;refine⟨(ot.isSome,0,nq,t,q,cap,{ st4 with lets:=setP st4.lets nq }),(cvE rfl rfl),hN,lN,fun ho=>?_,fun ho=>?_⟩
     ·cases ot with
      | none=>cases ho
      | some t1 =>
       obtain⟨e1,e2,e3⟩:=hk t1 rfl;refine⟨by rw [hR,<- e1],Nat.zero_le _,by show nq.length<=8192;omega,e2,?_⟩;have k1:KidsT (fun b=>U.heap.size<=b/\b<T.heap.size) T q t.kids:=e3.there;refine (k1.by fun b cs ty fr hb hc=>?_).weak fun b hb=>by omega
       have hlw:=(zb5 hT.lm);rw [gN.block b (by have:=bE.size;omega) (by simp;omega),bE.block b (by omega),oP b (by omega)]
     ·cases ot with
      | none=>exact hR
      | some t1=>cases ho
  ·
   have h4:¬ (k:Int)=0:=dF h4;rw [if_neg (by omega)] at hR;refine⟨_,zac (zaa lY.p) (i:=0) rfl,?_⟩;refine cmo (zjX 40000 1 st1 Y (by decide) hY (by have:=hY.len;omega)) ?_;rintro e T ⟨t,q,cap,rfl,hk,hT,gT⟩;rcases htm:termP (zaw s) 40000 1 st1 with ⟨ot,st2⟩;rw [htm] at hk hT hR;dsimp only at hk hT hR ⊢;have lT:=lY.grown (.inl rfl) hgw gT;refine lT.store hT hgw (k':=k) (nq':=[]) (t':=t) (q':=q) (cap':=cap) (o:=2) (v := .agg (zad t q cap).toArray) k34 rfl (by show 2+3<=5;decide) rfl rfl fun P hP lP oP sP=>?_
   cases ot with
   | none =>
    refine brF ?_;refine brF ?_;exact⟨(false,k,[],t,q,cap,st2),(cvE rfl rfl),hP,lP,fun h=>absurd h Bool.false_ne_true,fun _=>hR⟩
   | some t1 =>
    obtain⟨e1,e2,e3⟩:=hk t1 rfl;subst e1;have k1:KidsT (fun b=>Y.heap.size<=b/\b<T.heap.size) T q t1.kids:=e3.there;have sT:=gT.size;dsimp only at hR;refine brT ?_;refine⟨_,zac (zaa lP.p) (i:=0) rfl,?_⟩;refine cmo (zdW hP 3 [97,115]) ?_;rintro e U ⟨rfl,hU,gU⟩;rcases hex:zaK (zaw s) 3 [97,115] st2 with ⟨oe,st3⟩;rw [hex] at hR hU;dsimp only at hU hR ⊢;have lU:=lP.grown (.inl rfl) hgw gU
    cases oe with
    | false =>
     refine brF ?_;exact⟨(false,k,[],t1,q,cap,st3),(cvE rfl rfl),hU,lU,fun h=>absurd h Bool.false_ne_true,fun _=>hR⟩
    | true =>
     dsimp only at hR;refine brT ?_;have hpu:=hU.pos;refine⟨_,zac (zaa lU.p) (i:=0) rfl,?_⟩;refine cmo (zlg hU lU.p) ?_;rintro e Z ⟨rfl,hZ,gZ⟩;rcases hnm:zby (zaw s) st3.checks st3 with ⟨on,st4⟩;rw [hnm] at hR hZ;dsimp only at hZ hR ⊢;have lZ:=lU.grown (.inl rfl) hgw gZ;refine lZ.store hZ hgw (k':=k) (nq':=on.getD []) (t':=t1) (q':=q) (cap':=cap) (o:=1) (v:=strV (on.getD [])) k9 rfl (by show 1+1<=5;decide) rfl rfl fun V hV lV oV sV=>?_;refine DrawE.ord [6] [0,1,2,3,4,5,6] (by kernel_rfl) ?_;have bE:=(Below.refl V.heap.size V).drew;have hE:=hV.below bE;have lE:=lV.below bE;refine⟨_,zac (zaa lE.p) (i:=0) rfl,?_⟩;refine⟨_,zac (zaa hE.f) (i:=5) rfl,?_⟩;refine⟨_,zac (zaa lE.x) (i:=1) rfl,?_⟩;refine hE.setC (on.getD []) fun N hN gN=>?_;have lN:=lE.grown (.inr (.inr rfl)) (by omega) gN;refine⟨(on.isSome,k,on.getD [],t1,q,cap,{ st4 with checks:=setP st4.checks (on.getD []) }),(cvE rfl rfl),hN,lN,fun ho=>?_,fun ho=>?_⟩
     ·cases on with
      | none=>cases ho
      | some nq =>
       have hnl:=ziF hnm hpu;refine⟨by rw [hR];rfl,by show k<=3;omega,by show nq.length<=8192;omega,e2,?_⟩;refine (k1.by fun b cs ty fr hb hc=>?_).weak fun b hb=>by omega
       have hcw:=(zb5 hT.cm);have sU:=gU.size;have sZ:=gZ.size;rw [gN.block b (by have:=bE.size;omega) (by simp;omega),bE.block b (by omega),oV b (by omega),gZ.block b (by omega) (by simp;omega),gU.block b (by omega) (by simp;omega),oP b (by omega)]
     ·cases on with
      | none=>exact hR
      | some nq=>cases ho
 clear hY lY hR hkk hk4 h3 hl4 hs1;rintro⟨ok,k,nq,t,q,cap,st2⟩ Y ⟨hY,lY,hok,hno⟩;dsimp only at hY lY hok hno ⊢;have done:∀ {ok2:Bool} {st3:PS} {Z:World},ParB g l c s st3 Z->LinB w g l c k nq t q cap Z->R.1.isSome=ok2->R.2=st3->(∀ x,R.1=some x->x=⟨k,nq,t⟩/\k<=3/\nq.length<=8192/\t.name.length<=8192/\KidsT (fun b=>w.heap.size+2<b) Z q t.kids) ->
   ∃ us:List Value,us.length=5/\zav Z ⟨w.heap.size+2,0,none⟩ us/\w.heap.size+2<Z.heap.size/\SatR ((storeVar 62 ⟨w.heap.size+1,0,none⟩ (.agg us.toArray)).run Tryz.prog Z) fun _ w'=>∃ us:List Value,us.length=5/\zav w' ⟨w.heap.size+1,0,none⟩ us/\LinR g l c s w R (.returned (zcr [.agg us.toArray,.bool ok2])) w':=by
  intro ok2 st3 Z hZ lZ e1 e2 e3;exact⟨_,rfl,zaa lZ.x,hlt lZ.x,lZ.fin hZ hgw e1 e2 e3⟩
 cases ok with
 | false =>
  have hR:=hno rfl;refine brF ?_;refine brF ?_;refine brF ?_;exact done hY lY (by rw [hR];rfl) (by rw [hR]) (fun x hx=>by rw [hR] at hx;cases hx)
 | true =>
  obtain⟨hR,hk3,hn,htn,hkd⟩:=hok rfl;unfold endP at hR;refine brT ?_;refine⟨_,zac (zaa lY.p) (i:=0) rfl,?_⟩;refine⟨_,zac (zaa hY.f) (i:=1) rfl,?_⟩;have good:¬ (st2.tok.kind≠2/\st2.tok.kind≠1)->∃ us:List Value,us.length=5/\zav Y ⟨w.heap.size+2,0,none⟩ us/\w.heap.size+2<Y.heap.size/\SatR ((storeVar 62 ⟨w.heap.size+1,0,none⟩ (.agg us.toArray)).run Tryz.prog Y) fun _ w'=>∃ us:List Value,us.length=5/\zav w' ⟨w.heap.size+1,0,none⟩ us/\LinR g l c s w R (.returned (zcr [.agg us.toArray,.bool true])) w':=fun hc=>by
   rw [if_neg hc] at hR;exact done hY lY (by rw [hR];rfl) (by rw [hR]) (fun x hx=>by rw [hR] at hx;exact⟨(Option.some.inj hx).symm,hk3,hn,htn,hkd⟩)
  refine biE (fun h1=>?_) fun h1=>?_
  ·have h1:(!decide ((st2.tok.kind:Int)=((2:Nat):Int)))=true:=h1;rw [zaH] at h1;have h1:st2.tok.kind≠2:=by simpa using h1
   refine⟨_,zac (zaa lY.p) (i:=0) rfl,?_⟩;refine⟨_,zac (zaa hY.f) (i:=1) rfl,?_⟩;refine biE (fun h2=>?_) fun h2=>?_
   ·have h2:(!decide ((st2.tok.kind:Int)=((1:Nat):Int)))=true:=h2;rw [zaH] at h2;have h2:st2.tok.kind≠1:=(by simpa using h2);rw [if_pos ⟨h1,h2⟩] at hR;refine⟨_,zac (zaa lY.p) (i:=0) rfl,?_⟩;refine cmo (zbV hY 110) ?_;rintro e Z ⟨rfl,hZ,gZ⟩;exact done hZ (lY.grown (.inl rfl) hgw gZ) (by rw [hR];rfl) (by rw [hR]) (fun x hx=>by rw [hR] at hx;cases hx)
   ·have h2:(!decide ((st2.tok.kind:Int)=((1:Nat):Int)))=false:=h2;rw [zaH] at h2;have h2:st2.tok.kind=1:=(by simpa using h2);exact good fun h=>h.2 h2
  ·have h1:(!decide ((st2.tok.kind:Int)=((2:Nat):Int)))=false:=h1;rw [zaH] at h1;have h1:st2.tok.kind=2:=by simpa using h1
   refine brF ?_;exact good fun h=>h.1 h1
end
abbrev LinX:=LineD×Option Addr×Nat
def linE:Enc LinX:=⟨fun x=>zat x.1.kind x.1.name x.1.term x.2.1 x.2.2,5,fun _=>rfl,by decide,fun a u hu=>by
 simp only [zat,zad,List.mem_cons,List.not_mem_nil,or_false] at hu;rcases hu with rfl | rfl | rfl | rfl | rfl <;> rfl⟩
def LinK (Q:Nat->Prop) (w:World) (rows:List LinX):Prop:=∀ x∈rows,x.1.kind<=255/\x.1.name.length<=140737488351232/\x.1.term.name.length<=140737488351232/\KidsT Q w x.2.1 x.1.term.kids
def LinsM (Q:Nat->Prop) (w:World) (p:Option Addr) (ls:List LineD):Prop:=∃ rows:List LinX,rows.map (·.1)=ls/\SlR linE w p rows/\LinK Q w rows/\(rows≠[]->∀ a,p=some a->Q a.block)
def ParR (r:Option (List LineD)×Nat×Int) (w:World) (e:Ending) (w':World):Prop :=
 (∃ (p:Option Addr) (cap:Nat),e = .returned (.tuple #[.agg #[.slice p (r.1.getD []).length cap],i64 (r.2.1:Nat),i64 r.2.2])/\(r.1.getD []).length<=40/\LinsM (fun b=>w.heap.size<=b) w' p (r.1.getD []))/\Bw w w'
section
variable {g l c B:Nat} {s:Bs} {st:PS} {w w2 w3 X:World}
theorem Oth.low (h:Oth g l c w w2) (h1:B<=g) (h2:B<=l) (h3:B<=c) (h4:B<=w.heap.size):Below B w w2:=⟨h.os,h.tape,h.output,h.size,fun j hj=>h.block j (by omega) (by omega) (by omega) (by omega)⟩
theorem LinK.by {Q:Nat->Prop} {rows:List LinX} (hs:∀ (g:Nat) (cs:Array Value) (t:TypeId) (fr:Nat×Nat),Q g->w.heap[g]?=some (.cells cs t fr)->w2.heap[g]?=w.heap[g]?) (h:LinK Q w rows):LinK Q w2 rows :=
 fun x hx=>⟨(h x hx).1,(h x hx).2.1,(h x hx).2.2.1,(h x hx).2.2.2.by hs⟩
theorem LinK.weak {Q Q':Nat->Prop} {rows:List LinX} (h:LinK Q w rows) (hb:∀ b,Q b->Q' b):LinK Q' w rows :=
 fun x hx=>⟨(h x hx).1,(h x hx).2.1,(h x hx).2.2.1,(h x hx).2.2.2.weak hb⟩
theorem LinK.there {Q:Nat->Prop} {rows:List LinX} (h:LinK Q w rows):LinK (fun b=>Q b/\b<w.heap.size) w rows :=
 fun x hx=>⟨(h x hx).1,(h x hx).2.1,(h x hx).2.2.1,(h x hx).2.2.2.there⟩
theorem LinsM.by {Q:Nat->Prop} {p:Option Addr} {ls:List LineD} (hs:∀ (g:Nat) (cs:Array Value) (t:TypeId) (fr:Nat×Nat),Q g->w.heap[g]?=some (.cells cs t fr)->w2.heap[g]?=w.heap[g]?) (h:LinsM Q w p ls):LinsM Q w2 p ls:=by
 obtain⟨rows,e1,e2,e3,e4⟩:=h;refine⟨rows,e1,?_,e3.by hs,e4⟩;rcases e2 with e2 | ⟨b,o,hp,hb,hc⟩
 ·exact .inl e2
 ·by_cases h0:rows=[]
  ·exact .inl h0
  ·have hl:0<rows.length:=List.length_pos_iff.2 h0;have hq:=e4 h0 _ hp;have h1:=hc 0 hl 0 _ rfl;unfold World.cell? at h1
   split at h1
   ·rename_i cs t fr hblk;have hblk:w.heap[b]?=some (.cells cs t fr):=hblk;have sm:=hs b cs t fr hq hblk;exact .inr ⟨b,o,hp,hlt (sm.trans hblk),fun i hi=>zaA sm (hc i hi)⟩
   ·cases h1
theorem LinsM.weak {Q Q':Nat->Prop} {p:Option Addr} {ls:List LineD} (h:LinsM Q w p ls) (hb:∀ b,Q b->Q' b):LinsM Q' w p ls:=by
 obtain⟨rows,e1,e2,e3,e4⟩:=h;exact⟨rows,e1,e2,e3.weak hb,fun h0 a ha=>hb _ (e4 h0 a ha)⟩
theorem LinsM.below {Q:Nat->Prop} {p:Option Addr} {ls:List LineD} (h:LinsM Q w p ls) (b:Bw w w2):LinsM Q w2 p ls:=h.by fun g cs t fr _ hc=>b.block g (hlt hc)
theorem LinsM.all {Q:Nat->Prop} {p:Option Addr} {ls:List LineD} (h:LinsM Q w p ls):LinsM (fun _=>True) w p ls:=h.weak fun _ _=>trivial
theorem LinK.nil {Q:Nat->Prop}:LinK Q w []:=fun x hx=>by cases hx
theorem LinK.snoc {Q:Nat->Prop} {rows:List LinX} {x:LinX} (h:LinK Q w rows) (hx:LinK Q w [x]):LinK Q w (rows++[x]):=fun y hy=>by
 rcases List.mem_append.1 hy with hy | hy
 ·exact h y hy
 ·exact hx y hy
theorem zh0 (hg:GlobK w) (s:Bs) (hs:s.length<=140737488351232):Calls Tryz.prog 10 #[strV s] w (ParR (zaJ s) w):=by
 refine cofM 61 [strV s] (.c .p (.s .p (.s .p (.c .p .p)))) Tryz.func10 ?_;obtain⟨R,hR⟩:=nm (zaJ s);rw [<- hR];unfold zaJ at hR;have hgl:=hg.lt;refine⟨Unit,fun _=>⟨[(0,strV s),(2,At0 w.heap.size)],[]⟩,fun _ X=>X.heap[w.heap.size]?=some (.cells #[.slice none 0 0] 26 (0,0))/\Bw w X/\X.heap.size=w.heap.size+1,⟨(),(cvE rfl rfl),hnew w _,zba _ _,wz _ _⟩,?_⟩;rintro _ W1 ⟨f1,b1,n1⟩;refine biE (fun h1=>?_) fun h1=>?_
 ·have h1:(8192:Int)<(s.length:Int):=dT h1;rw [if_pos (by omega)] at hR;refine⟨[.slice none 0 0],rfl,?_⟩;refine zas (v := .agg #[.slice none 0 0]) k26 f1 rfl rfl rfl ?_;refine⟨[.slice none 0 0],rfl,zaa (zan f1),⟨none,0,by rw [hR];rfl,by rw [hR];exact Nat.zero_le _,[],by rw [hR];rfl,.nil,.nil,fun h=>absurd rfl h⟩,zaj b1 (Nat.le_refl _) _⟩
 have h1:¬ (8192:Int)<(s.length:Int):=dF h1;have hlen:s.length<=8192:=by omega
 rw [if_neg (by omega)] at hR;refine⟨Unit,fun _=>⟨[(2,At0 w.heap.size),(5,At0 (w.heap.size+1)),(6,At0 (w.heap.size+4))],[]⟩,fun _ Y=>ParB (w.heap.size+4) (w.heap.size+2) (w.heap.size+3) s ⟨⟨0,[],0⟩,fun _=>false,fun _=>false,0,0,0⟩ Y/\Y.heap[w.heap.size]?=some (.cells #[.slice none 0 0] 26 (0,0))/\Y.heap[w.heap.size+1]?=some (.cells #[.slice none 0 0] 26 (0,0))/\Bw w Y,?_,?_⟩
 ·obtain⟨W2,e2⟩:=nm (W1.alloc (.cells #[.slice none 0 0] 26));have n2:W2.heap.size=w.heap.size+2:=by rw [e2,wz,n1]
  have f2:W2.heap[w.heap.size+1]?=some (.cells #[.slice none 0 0] 26 (0,0)):=by rw [e2,<- n1];exact hnew W1 _
  have b2:Bw W1 W2:=by rw [e2];exact zba _ _
  rw [<- e2,<- n1];refine⟨Value.map (some W2.heap.size),W2.alloc (.map #[] 0),rfl,?_⟩;have m3:MapF (key:=keyS) (W2.alloc (.map #[] 0)) W2.heap.size (fun (_:Bs)=>none):=MapF.new;obtain⟨W3,e3⟩:=nm (W2.alloc (.map #[] 0));have n3:W3.heap.size=w.heap.size+3:=by rw [e3,wz,n2]
  have b3:Bw W2 W3:=by rw [e3];exact zba _ _
  rw [<- e3] at m3 ⊢;refine⟨Value.map (some W3.heap.size),W3.alloc (.map #[] 0),rfl,?_⟩;have m4:MapF (key:=keyS) (W3.alloc (.map #[] 0)) W3.heap.size (fun (_:Bs)=>none):=MapF.new;obtain⟨W4,e4⟩:=nm (W3.alloc (.map #[] 0));have n4:W4.heap.size=w.heap.size+4:=by rw [e4,wz,n3]
  have b4:Bw W3 W4:=by rw [e4];exact zba _ _
  rw [<- e4] at m4 ⊢;refine⟨zdk s W2.heap.size W3.heap.size ⟨⟨0,[],0⟩,fun _=>false,fun _=>false,0,0,0⟩,rfl,?_⟩;have f5:=hnew W4 (.cells (zdk s W2.heap.size W3.heap.size ⟨⟨0,[],0⟩,fun _=>false,fun _=>false,0,0,0⟩).toArray 108);have b5:=zba W4 (.cells (zdk s W2.heap.size W3.heap.size ⟨⟨0,[],0⟩,fun _=>false,fun _=>false,0,0,0⟩).toArray 108);refine⟨(),⟨.cons rfl (.cons rfl (.cons ?_ .nil)),rfl⟩,?_⟩
  ·show some (At0 W4.heap.size)=_;rw [n4]
  rw [n2,n3] at f5 b5;show _/\_;rw [n2,n3];rw [n4] at f5;have bAll:=zst b1 (zst b2 (zst b3 (zst b4 b5)));have em:(fun (_:Bs)=>(none:Option Value))=mapB (fun _=>false):=rfl;rw [em,n2] at m3;rw [em,n3] at m4;refine⟨⟨f5,?_,?_,⟨by omega,by omega,by omega⟩,hg.below bAll,hlen,Nat.zero_le _,Nat.zero_le _,Nat.zero_le _⟩,?_,?_,bAll⟩
  ·exact (m3.below b4).below b5
  ·exact m4.below b5
  ·exact zab b5 (zab b4 (zab b3 (zab b2 f1)))
  ·rw [<- n1] at f2;exact zab b5 (zab b4 (zab b3 f2))
 clear f1 b1 n1 W1;rintro _ Y ⟨hY,fr,fc,bY⟩;dsimp only;refine cmo (zdl hY) ?_;have es:nx s ⟨⟨0,[],0⟩,fun _=>false,fun _=>false,0,0,0⟩=zeq s:=rfl;rw [es];rintro e Z ⟨rfl,hZ,gZ⟩;have frZ:=(gZ.block _ (hlt fr) (by simp)).trans fr;have fcZ:=(gZ.block _ (hlt fc) (by simp)).trans fc;have bZ:Bw w Z:=bY.trans (zak gZ bY.size (by omega));refine⟨List LinX×Option Addr×Nat×PS×Nat,fun y=>⟨[(2,At0 w.heap.size),(5,At0 (w.heap.size+1)),(6,At0 (w.heap.size+4))],[]⟩,
  fun y Y=>ParB (w.heap.size+4) (w.heap.size+2) (w.heap.size+3) s y.2.2.2.1 Y/\Y.heap[w.heap.size]?=some (.cells #[.slice none 0 0] 26 (0,0))/\Y.heap[w.heap.size+1]?=some (.cells #[.slice y.2.1 y.1.length y.2.2.1] 26 (0,0))/\Bw w Y /\
   OwnS linE 62 (w.heap.size+5) Y y.2.1 y.2.2.1 y.1/\LinK (fun b=>w.heap.size+4<b/\∀ a,y.2.1=some a->a.block≠b) Y y.1/\y.1.length<=40/\(∃ i,y.2.2.2.1.tok=zaw s i) /\
   R=zcd (zaw s) 40000 y.2.2.2.2 (y.1.map (·.1)) y.2.2.2.1/\s.length-y.2.2.2.1.tok.at_+1<=y.2.2.2.2,
  fun y=>y.2.2.2.2,([],none,0,zeq s,10000),(cvE rfl rfl),?_,?_⟩
 ·exact⟨hZ,frZ,fcZ,bZ,.nil,.nil,Nat.zero_le _,⟨0,rfl⟩,hR,by show s.length-(zeq s).tok.at_+1<=10000;omega⟩
 clear hZ frZ fcZ bZ gZ hY fr fc bY es hR Z Y;rintro⟨rows,p,cap,st,n⟩ Y ⟨hY,fr,fc,bY,ho,hk,h40,⟨i,hi⟩,hR,hn⟩;dsimp only at hY fc ho hk h40 hi hR hn ⊢;obtain⟨n',rfl⟩:∃ n',n=n'+1:=⟨n-1,by omega⟩;rw [zcd] at hR;have sY:w.heap.size+4<Y.heap.size:=hY.lt;have hps:=hY.pos;refine⟨_,zac (zaa hY.f) (i:=1) rfl,?_⟩;refine biE (fun h2=>?_) fun h2=>?_
 ·have h2:(!decide ((st.tok.kind:Int)=((1:Nat):Int)))=true:=h2;rw [zaH] at h2;have h2:st.tok.kind≠1:=by simpa using h2
  rw [if_neg h2] at hR;refine⟨_,zac (zaa hY.f) (i:=1) rfl,?_⟩;refine biE (fun h3=>?_) fun h3=>?_
  ·
   have h3:st.tok.kind=2:=dT ((zaH (b:=2)).symm.trans h3);rw [if_pos h3] at hR;have ht:1<=st.tok.text.length:=by rw [hi] at h3 ⊢;exact zib h3
   refine cmo (zdl hY) ?_;rintro e Z ⟨rfl,hZ,gZ⟩;have hx:=zld s st;refine⟨(rows,p,cap,nx s st,n'),(cvE rfl rfl),⟨hZ,(gZ.block _ (hlt fr) (by simp)).trans fr,(gZ.block _ (hlt fc) (by simp)).trans fc,bY.trans (zak gZ bY.size (by omega)),?_,?_,h40,⟨_,rfl⟩,hR,?_⟩,Nat.lt_succ_self _⟩
   ·exact ho.kept gZ fun gg hg e=>by have h5:w.heap.size+5<=gg:=(zau ho hg).1;simp at e;omega
   ·exact (hk.there.by fun b cs ty fr hb hc=>gZ.block b hb.2 (by simp;omega)).weak fun b hb=>hb.1
   ·have:(nx s st).tok.at_=(zbe (zaw s) st).tok.at_:=rfl;dsimp only;omega
  ·
   have h3:st.tok.kind≠2:=dF ((zaH (b:=2)).symm.trans h3);rw [if_neg h3] at hR;refine⟨_,zac (zaa fc) (i:=0) rfl,?_⟩;refine cmo (zql rows.length hY) ?_;rintro e Z ⟨k,nq,t,q,cp,rfl,hl,hZ,oZ⟩;have hm:=zmP (s:=s) 40000 rows.length st;have hon:∀ (x:LineD) (st2:PS),zcG (zaw s) 40000 rows.length st=(some x,st2)->st.tok.at_+1<=st2.tok.at_:=fun x st2=>zmT;have hmy:∀ (x:LineD) (st2:PS),zcG (zaw s) 40000 rows.length st=(some x,st2)->rows.length<40:=fun x st2=>zmU;rw [List.length_map] at hR;rcases hln:zcG (zaw s) 40000 rows.length st with ⟨r1,st2⟩;rw [hln] at hl hZ hm hR hon hmy;dsimp only at hl hZ hm hR hon hmy ⊢;have bZ:Bw w Z:=bY.trans (oZ.low (by omega) (by omega) (by omega) (by omega));have keep:∀ {j:Nat} {o:Obj},Y.heap[j]?=some o->j≠w.heap.size+4->j≠w.heap.size+2->j≠w.heap.size+3->Z.heap[j]?=some o:=fun {j o} h h1 h2 h3=>(oZ.block j (hlt h) h1 h2 h3).trans h;have frZ:=keep fr (by omega) (by omega) (by omega);have fcZ:=keep fc (by omega) (by omega) (by omega);have sZ:=oZ.size;refine zal (X:=Z) (v := .agg (zat k nq t q cp).toArray) k62 rfl rfl rfl fun U hbU fU sU=>?_;have hU:=hZ.below hbU;have bU:=zst bZ hbU;have frU:=zab hbU frZ;have fcU:=zab hbU fcZ
   cases r1 with
   | none =>
    refine brT ?_;have bE:=(Below.refl U.heap.size U).drew;have hE:=hU.below bE;have fE:=zab bE frU;have hE2:(U.drew.setRow w.heap.size #[.slice none 0 0]).heap[w.heap.size+4]?=some (.cells (zdk s (w.heap.size+2) (w.heap.size+3) st2).toArray 108 (0,0)):=(zap (by omega)).trans hE.f;have done:∃ us:List Value,us.length=1/\zav (U.drew.setRow w.heap.size #[.slice none 0 0]) ⟨w.heap.size,0,none⟩ us/\ParR R w (.returned (zcr [.agg us.toArray,i64 (st2.tok.at_:Nat),i64 st2.e])) (U.drew.setRow w.heap.size #[.slice none 0 0]) :=
     ⟨[.slice none 0 0],rfl,zaa (zan fE),⟨none,0,by rw [hR];rfl,by rw [hR];exact Nat.zero_le _,[],by rw [hR];rfl,.nil,.nil,fun h=>absurd rfl h⟩,zaj ((zst bU bE)) (Nat.le_refl _) _⟩
    refine DrawE.treeR [10] (.op 0 (.op 1 (.op 2 (.op 3 (.op 4 (.op 6 (.op 7 (.op 8 (.alt (.op 10 (.alt (.op 5 (.op 9 (.op 11 (.op 12 (.nil))))) (.op 9 (.op 5 (.op 11 (.op 12 (.nil))))))) (.alt (.op 5 (.alt (.op 10 (.op 9 (.op 11 (.op 12 (.nil))))) (.op 9 (.op 10 (.op 11 (.op 12 (.nil))))))) (.op 9 (.alt (.op 10 (.op 5 (.op 11 (.op 12 (.nil))))) (.op 5 (.op 10 (.op 11 (.op 12 (.nil))))))))))))))))) (by kernel_rfl) ?_;refine⟨[.slice none 0 0],rfl,?_⟩;refine And.intro ?_ (And.intro ?_ ?_)
    ·refine zas (v := .agg #[.slice none 0 0]) k26 fE rfl rfl rfl ?_;refine And.intro ?_ ?_
     ·refine⟨_,zac (zaa hE2) (i:=3) rfl,?_⟩;refine⟨_,zac (zaa hE2) (i:=8) rfl,?_⟩;exact done
     ·refine⟨_,zac (zaa hE2) (i:=8) rfl,?_⟩;refine⟨_,zac (zaa hE2) (i:=3) rfl,?_⟩;exact done
    ·refine⟨_,zac (zaa hE.f) (i:=3) rfl,?_⟩;refine And.intro ?_ ?_
     ·refine zas (v := .agg #[.slice none 0 0]) k26 fE rfl rfl rfl ?_;refine⟨_,zac (zaa hE2) (i:=8) rfl,?_⟩;exact done
     ·refine⟨_,zac (zaa hE.f) (i:=8) rfl,?_⟩;refine zas (v := .agg #[.slice none 0 0]) k26 fE rfl rfl rfl ?_;exact done
    ·refine⟨_,zac (zaa hE.f) (i:=8) rfl,?_⟩;refine And.intro ?_ ?_
     ·refine zas (v := .agg #[.slice none 0 0]) k26 fE rfl rfl rfl ?_;refine⟨_,zac (zaa hE2) (i:=3) rfl,?_⟩;exact done
     ·refine⟨_,zac (zaa hE.f) (i:=3) rfl,?_⟩;refine zas (v := .agg #[.slice none 0 0]) k26 fE rfl rfl rfl ?_;exact done
   | some x =>
    obtain⟨rfl,hk3,hnl,htl,hkd⟩:=hl x rfl;refine brF ?_;refine⟨_,zac (zaa fcU) (i:=0) rfl,?_⟩;refine⟨_,rfl,zaa fU,hlt fU,?_⟩;refine⟨⟨by decide,by decide,rfl⟩,zat k nq t q cp,rfl,?_⟩;obtain⟨V,hV⟩:=nm (U.alloc (.cells (zat k nq t q cp).toArray 62));have hbV:Bw U V:=(by rw [hV];exact zba _ _);have sV:V.heap.size=U.heap.size+1:=(by rw [hV];exact wz _ _);have cV:zav V ⟨U.heap.size,0,none⟩ ([((⟨k,nq,t⟩,q,cp):LinX)].flatMap linE.enc):=(by rw [hV];exact zbi linE ((⟨k,nq,t⟩,q,cp):LinX));have bV:=zst bU hbV;have hVp:=hU.below hbV;have hoV:OwnS linE 62 (w.heap.size+5) V p cap rows:=((ho.same fun a ha=>oZ.block a.block (zau ho ha).2.1 (by have:=(zau ho ha).1;omega) (by have:=(zau ho ha).1;omega) (by have:=(zau ho ha).1;omega)).below hbU).below hbV;rw [<- hV];refine zbA (E:=linE) (news:=[((⟨k,nq,t⟩,q,cp):LinX)]) (m:=1) Tryz.underlying24 k62 rfl rfl rfl hoV rfl cV (by omega) (by omega) (by show (rows.length+1)*72<=140737488355328;omega) fun p2 c2 T hoT gT bT hat=>?_;have ownb:∀ {j:Nat},j<w.heap.size+5->(Value.slice p rows.length cap).ownBlock≠some j:=fun {j} hj e=>by
     have:=(World.ownsRow.lt hoV j e).1;omega
    have tk:∀ {j:Nat} {o:Obj},V.heap[j]?=some o->j<w.heap.size+5->T.heap[j]?=some o:=fun {j o} h hj=>(gT.block j (hlt h) (ownb hj).symm).trans h;have hT:ParB (w.heap.size+4) (w.heap.size+2) (w.heap.size+3) s st2 T:=hVp.upto ⟨bT.os,bT.tape,bT.output,bT.size,fun j hj=>gT.block j (by omega) (ownb (by omega)).symm⟩;have fcT:=tk (zab hbV fcU) (by omega);have frT:=tk (zab hbV frU) (by omega);refine zas (v := .slice p2 (rows++[((⟨k,nq,t⟩,q,cp):LinX)]).length c2) k24 fcT rfl rfl rfl ?_;have bS:=zaj (B:=w.heap.size) (Below.refl _ T) (Nat.le_succ w.heap.size) (Value.slice p2 (rows++[((⟨k,nq,t⟩,q,cp):LinX)]).length c2).cells;refine⟨(rows++[((⟨k,nq,t⟩,q,cp):LinX)],p2,c2,st2,n'),(cvE rfl rfl),⟨?_,(zap (by omega)).trans frT,zan fcT,(bV.trans (bT.mono (by omega))).trans bS,?_,?_,?_,?_,?_,?_⟩,Nat.lt_succ_self _⟩
    ·
     have og:=hT.ord;have hgT:=hT.glob;have sm:∀ {j},j≠w.heap.size+1->(T.setRow (w.heap.size+1) (Value.slice p2 (rows++[((⟨k,nq,t⟩,q,cp):LinX)]).length c2).cells).heap[j]?=T.heap[j]?:=fun {j} hj=>zap hj;exact⟨(sm (by omega)).trans hT.f,hT.lm.same (sm (by omega)),hT.cm.same (sm (by omega)),og,hgT.grown (g:=w.heap.size+1) (by omega) (zaU T _ _),hT.len,hT.pos,hT.nod,hT.dep⟩
    ·refine hoT.kept (zaU T (w.heap.size+1) _) fun gg hg e=>?_;have h5:w.heap.size+5<=gg:=(zau hoT hg).1;simp at e;omega
    ·have other:∀ {b:Nat} {cs:Array Value} {ty:TypeId} {fr:Nat×Nat},w.heap.size+4<b->(∀ a,p=some a->a.block≠b)->b<Z.heap.size->(T.setRow (w.heap.size+1) (Value.slice p2 (rows++[((⟨k,nq,t⟩,q,cp):LinX)]).length c2).cells).heap[b]?=Z.heap[b]?/\∀ a,p2=some a->a.block≠b:=by
      intro b cs ty fr h1 h2 h3;refine⟨?_,fun a ha=>?_⟩
      ·rw [zap (by omega),gT.block b (by omega) ?_,hbV.block b (by omega),hbU.block b h3];intro e;rcases p with _ | a
       ·simp [Value.ownBlock] at e
       ·rcases hoV.inv with ⟨h0,_⟩ | ⟨gg,_,h0,_⟩
        ·cases h0
        ·cases h0
         simp [Value.ownBlock] at e;exact h2 _ rfl e.symm
      ·rcases hat a ha with h4 | h4
       ·exact h2 a h4
       ·omega
     refine LinK.snoc ?_ ?_
     ·have k1:LinK (fun b=>(w.heap.size+4<b/\∀ a,p=some a->a.block≠b)/\b<Y.heap.size) Y rows:=hk.there;have k2:LinK (fun b=>(w.heap.size+4<b/\∀ a,p=some a->a.block≠b)/\b<Y.heap.size) Z rows:=k1.by fun b cs ty fr hb hc=>oZ.block b hb.2 (by omega) (by omega) (by omega)
      refine (k2.by fun b cs ty fr hb hc=>(other (cs:=cs) (ty:=ty) (fr:=fr) hb.1.1 hb.1.2 (by omega)).1).weak fun b hb=>⟨hb.1.1,(other (cs := #[]) (ty:=0) (fr:=(0,0)) hb.1.1 hb.1.2 (by omega)).2⟩
     ·intro x hx;obtain rfl:=List.mem_singleton.1 hx;have pl:∀ {b:Nat},Y.heap.size<=b->∀ a,p=some a->a.block≠b:=fun {b} hb a ha e=>by have:=(zau ho ha).2.1;omega
      have k1:KidsT (fun b=>Y.heap.size<=b/\b<Z.heap.size) Z q t.kids:=hkd.there;refine⟨by show k<=255;omega,by show nq.length<=_;omega,by show t.name.length<=_;omega,?_⟩;exact (k1.by fun b cs ty fr hb hc=>(other (cs:=cs) (ty:=ty) (fr:=fr) (by omega) (pl hb.1) hb.2).1).weak fun b hb=>⟨by omega,(other (cs := #[]) (ty:=0) (fr:=(0,0)) (by omega) (pl hb.1) hb.2).2⟩
    ·dsimp only;rw [lap];have hlt:=hmy _ _ rfl;show rows.length+1<=40;omega
    ·rcases hm.2.2 with e | e
     ·exact⟨i,e.trans hi⟩
     ·exact e
    ·dsimp only;rw [hR,List.map_append];rfl
    ·have:=hon _ _ rfl;have hp2:=hZ.pos;dsimp only;omega
 ·have h2:(!decide ((st.tok.kind:Int)=((1:Nat):Int)))=false:=h2;rw [zaH] at h2;have h2:st.tok.kind=1:=by simpa using h2
  rw [if_pos h2] at hR;refine⟨_,rfl,zaa fc,hlt fc,?_⟩;refine zas (v := .agg #[.slice p rows.length cap]) k26 fr rfl rfl rfl ?_;have ok2:OwnS linE 62 (w.heap.size+5) (Y.setRow w.heap.size (Value.agg #[.slice p rows.length cap]).cells) p cap rows:=ho.kept (zaU Y w.heap.size _) fun gg hg e=>by
   have h5:w.heap.size+5<=gg:=(zau ho hg).1;simp at e;omega
  refine⟨[.slice p rows.length cap],rfl,zaa (zan fr),⟨p,cap,by rw [hR];show _=Ending.returned (.tuple #[.agg #[.slice p (rows.map (·.1)).length cap],i64 0,i64 0]);rw [List.length_map];rfl,by rw [hR];show (rows.map (·.1)).length<=40;rw [List.length_map];exact h40,rows,by rw [hR];rfl,ok2.row,?_,fun _ a ha=>by have:=(zau ok2 ha).1;omega⟩,zaj bY (Nat.le_refl _) _⟩;exact (hk.by fun b cs ty fr hb hc=>zap (by omega)).weak fun b hb=>by omega
end
end Go.Proofs.YtkpkdmipjinoaaaGreatDoor
namespace Go.Proofs.YtkpkdmipjinoaaaGreatDoor
open Go.Vc
mutual
def nodesT:Trm->Nat
 | .mk _ _ l=>1+nodesK l
def nodesK:List Trm->Nat
 | []=>0
 | t::r=>nodesT t+nodesK r
end
inductive VT:Trm->Prop
 | mk (k:UInt8) (nq:Bs) (kids:List Trm) (hk:k.toNat<10) (hl:(kids.length:Int)=zdm k.toNat) (hn:nq.length<=16) (hv:∀ x∈kids,VT x):VT (.mk k nq kids)
theorem VT.inv {k:UInt8} {nq:Bs} {kids:List Trm} (h:VT (.mk k nq kids)):k.toNat<10/\(kids.length:Int)=zdm k.toNat/\nq.length<=16/\∀ x∈kids,VT x:=by
 cases h with
 | mk _ _ _ h1 h2 h3 h4=>exact⟨h1,h2,h3,h4⟩
theorem zon {s:Bs} (h:relB s=true):s.length<=16:=by
 unfold relB at h;rw [List.any_eq_true] at h;obtain⟨w,hw,he⟩:=h;have he:=dT he;subst he
 revert hw
 have:∀ w∈[[112,111],[114,102],[99,111],[102,114],[114,109,119],[100,97,116,97],[99,116,114,108],[108,111,99],[105,100],[101,120,116],[105,110,116]],(w:Bs).length<=16:=by decide
 exact this _
theorem zob {s:Bs} (h:setB s=true):s.length<=16:=by
 unfold setB at h;rw [List.any_eq_true] at h;obtain⟨w,hw,he⟩:=h;have he:=dT he;subst he
 revert hw
 have:∀ w∈[[82],[87],[70],[77],[65],[76],[88],[70,70],[70,76],[70,83],[73]],(w:Bs).length<=16:=by decide
 exact this _
theorem zhU (lets:Bs->Bool) (n:Nat):∀ t,n<=(chkT lets n t).2/\((chkT lets n t).1=true->(chkT lets n t).2<=400):=fun t=>by
 cases t with
 | mk k nq kids=>exact go n k nq kids
where
 go (n:Nat) (k:UInt8) (nq:Bs):∀ kids,n<=(chkT lets n (.mk k nq kids)).2/\((chkT lets n (.mk k nq kids)).1=true->(chkT lets n (.mk k nq kids)).2<=400):=fun kids=>by
  rw [chkT]
  split
  ·exact⟨by show n<=n+1;omega,fun h=>by cases h⟩
  ·split
   ·exact⟨by show n<=n+1;omega,fun _=>by show n+1<=400;omega⟩
   ·split
    ·exact⟨by show n<=n+1;omega,fun _=>by show n+1<=400;omega⟩
    ·split
     ·exact⟨by show n<=n+1;omega,fun h=>by cases h⟩
     ·have:=goL (n+1) kids (by omega);exact⟨by omega,this.2⟩
 goL (n:Nat):∀ kids,n<=400->n<=(chkL lets n kids).2/\((chkL lets n kids).1=true->(chkL lets n kids).2<=400)
  | [],h=>by rw [chkL];exact⟨Nat.le_refl _,fun _=>h⟩
  | .mk k nq l::r,h=>by
   rw [chkL];have:=go n k nq l
   split <;> rename_i n2 e <;> rw [e] at this
   ·exact⟨this.1,fun h=>by cases h⟩
   ·have h2:=goL n2 r (this.2 rfl);have h3:=this.1;exact⟨by dsimp only at h3;omega,h2.2⟩
theorem ziU (lets:Bs->Bool) (hl:∀ s,lets s=true->s.length<=16):∀ t n n',chkT lets n t=(true,n')->VT t/\n'=n+nodesT t
 | .mk k nq kids,n,n',h=>by
  rw [chkT] at h
  split at h
  ·cases h
  ·rename_i hc;have h1:k.toNat<10:=by
    refine Classical.byContradiction fun hn=>hc (.inr (.inl (by omega)))
   have h2:(kids.length:Int)=zdm k.toNat:=by
    refine Classical.byContradiction fun hn=>hc (.inr (.inr hn))
   split at h
   ·rename_i hk;have hk0:kids=[]:=by
     rw [hk] at h2;have:(kids.length:Int)=0:=h2;exact List.eq_nil_of_length_eq_zero (by omega)
    subst hk0;have h:=Prod.mk.inj h;have hnm:nq.length<=16:=by
     have:=h.1;rw [Bool.or_eq_true] at this;rcases this with h | h
     ·exact zon h
     ·exact hl _ h
    exact⟨.mk _ _ _ h1 h2 hnm (fun x hx=>by cases hx),by rw [<- h.2,nodesT,nodesK]⟩
   ·split at h
    ·rename_i hk;have hk0:kids=[]:=by
      rw [hk] at h2;have:(kids.length:Int)=0:=h2;exact List.eq_nil_of_length_eq_zero (by omega)
     subst hk0;have h:=Prod.mk.inj h;exact⟨.mk _ _ _ h1 h2 (zob h.1) (fun x hx=>by cases hx),by rw [<- h.2,nodesT,nodesK]⟩
    ·split at h
     ·cases h
     ·rename_i hnm;have hnm:nq=[]:=Classical.byContradiction hnm;obtain⟨hv,hn⟩:=go kids (n+1) n' h;exact⟨.mk _ _ _ h1 h2 (by rw [hnm];exact Nat.zero_le _) hv,by rw [hn,nodesT];omega⟩
where
 go:∀ (l:List Trm) n n',chkL lets n l=(true,n')->(∀ x∈l,VT x)/\n'=n+nodesK l
  | [],n,n',h=>by
   rw [chkL] at h;refine⟨fun x hx=>?_,?_⟩
   ·cases hx
   ·rw [nodesK];exact (Prod.mk.inj h).2.symm
  | t::r,n,n',h=>by
   rw [chkL] at h
   split at h
   ·cases h
   ·rename_i n2 e;obtain⟨h1,h2⟩:=ziU lets hl t n n2 e;obtain⟨h3,h4⟩:=go r n2 n' h;refine⟨fun x hx=>?_,by rw [h4,h2,nodesK];omega⟩;rcases List.mem_cons.1 hx with rfl | hx
    ·exact h1
    ·exact h3 x hx
def PrLe (w w2:Pr) (n:Nat):Prop:=w2.text.length<=w.text.length+24*n/\w2.deep=w.deep/\w2.most<=max w.most (w.deep+n)/\w.text.length<=w2.text.length
theorem zfU:∀ t:Trm,1<=nodesT t
 | .mk _ _ _=>by rw [nodesT];omega
theorem zbc (w:Pr) (s:Bs):(putW w s).text.length=w.text.length+s.length:=lap
theorem zfp (k:Nat):(zhg k).length<=3:=by
 unfold zhg;rcases Nat.lt_or_ge k 10 with h | h
 ·have:∀ j:Fin 10,(([[],[],[124],[38],[92],[59],[94,45,49],[43],[42],[]]:List Bs).getD j.1 []).length<=3:=by decide
  exact this ⟨k,h⟩
 ·rw [gDe,List.getElem?_eq_none (by simpa using h)];decide
theorem zge {t:Trm} (ht:∀ w,PrLe w (prT w t) (nodesT t)) (w:Pr) (least:Nat) (r:List Trm):(prHead w least (t::r)).text.length<=w.text.length+24*nodesT t+2/\(prHead w least (t::r)).deep=w.deep/\(prHead w least (t::r)).most<=max w.most (w.deep+nodesT t+1)/\w.text.length<=(prHead w least (t::r)).text.length:=by
 rw [prHead]
 split
 ·have:=ht w;exact⟨by have:=this.1;omega,this.2.1,by have:=this.2.2.1;omega,this.2.2.2⟩
 ·have:=ht (putW { w with deep:=w.deep+1,most:=max w.most (w.deep+1) } [40]);obtain⟨h1,h2,h3,h4⟩:=this;rw [zbc] at h1 h4;have e1:([40]:Bs).length=1:=rfl;have e2:([41]:Bs).length=1:=rfl;dsimp only [putW] at h1 h2 h3 h4 ⊢;refine⟨?_,?_,?_,?_⟩
  ·rw [lap];omega
  ·omega
  ·omega
  ·rw [lap];omega
theorem zex:∀ t,VT t->∀ w,PrLe w (prT w t) (nodesT t)
 | .mk k nq kids,hv,w=>by
  obtain⟨hk,hl,hn,hkv⟩:=hv.inv;have ih:∀ x∈kids,∀ w,PrLe w (prT w x) (nodesT x):=fun x hx=>zex x (hkv x hx);rw [prT]
  split
  ·rw [nodesT];refine⟨by rw [zbc];omega,rfl,by show w.most<=_;omega,by rw [zbc];omega⟩
  ·split
   ·rw [nodesT];refine⟨by simp only [zbc,List.length_cons,List.length_nil];omega,rfl,by show w.most<=_;omega,by simp only [zbc];omega⟩
   ·rename_i hk1 hk9
    split
    ·rename_i h68;have hl1:kids.length=1:=by
      rcases h68 with rfl | rfl | rfl
      all_goals
       have:(kids.length:Int)=1:=hl;omega
     match kids,hl1,ih with
     | [a],_,ih =>
      have h1:=zge (ih a List.mem_cons_self) w 5 [];have h2:=zfp k.toNat;rw [nodesT,nodesK,nodesK];refine⟨by rw [zbc];omega,h1.2.1,by have:=h1.2.2.1;show (prHead w 5 [a]).most<=_;omega,by rw [zbc];omega⟩
    ·rename_i h68;have hl2:kids.length=2:=by
      have key:∀ j:Fin 10,j.1≠1->j.1≠9->j.1≠6->j.1≠7->j.1≠8->zdm j.1=2\/zdm j.1 = -1:=(by decide);have nk:∀ (m:UInt8),k≠m->k.toNat≠m.toNat:=fun m h e=>h (UInt8.toNat_inj.1 e);rcases key ⟨k.toNat,hk⟩ (nk 1 hk1) (nk 9 hk9) (nk 6 (fun e=>h68 (.inl e))) (nk 7 (fun e=>h68 (.inr (.inl e)))) (nk 8 (fun e=>h68 (.inr (.inr e)))) with h | h
      ·have h:zdm k.toNat=2:=h;omega
      ·have h:zdm k.toNat = -1:=h;omega
     match kids,hl2,ih with
     | [a,b],_,ih =>
      have h1:=zge (ih a List.mem_cons_self) w (strN k.toNat) [b];have h2:=zfp k.toNat;have h3:=zge (ih b (List.mem_cons_of_mem _ List.mem_cons_self)) (putW (putW (putW (prHead w (strN k.toNat) [a,b]) [32]) (zhg k.toNat)) [32]) (strN k.toNat+1) [];rw [nodesT,nodesK,nodesK,nodesK];rw [prTail];simp only [zbc,List.length_cons,List.length_nil] at h3;obtain⟨a1,a2,a3,a4⟩:=h1;obtain⟨b1,b2,b3,b4⟩:=h3;have na:=zfU a;have nb:=zfU b;dsimp only [putW] at b2 b3;refine⟨by omega,by dsimp only [putW];omega,?_,by omega⟩;dsimp only [putW];omega
end Go.Proofs.YtkpkdmipjinoaaaGreatDoor
namespace Go.Proofs.YtkpkdmipjinoaaaGreatDoor
open Go.Vc Go.RowKit Go.Sei
theorem zoJ (s:Bs) (hs:s.length<=140737488351232) (w:World) (hg:GlobK w):Calls Tryz.prog 185 #[strV s] w fun e w'=>e = .returned (.bool (ze0 s))/\w=w':=by
 refine cofE 27 [strV s] Tryz.func185 ?_;unfold ze0;refine⟨_,fun w=>zfY _ _ s [] w,?_⟩;refine biE (fun h=>?_) fun h=>?_
 ·have h:(!decide (s=[]))=true:=h;have h0:s≠[]:=by simpa using h
  have hp:0<s.length:=List.length_pos_iff.2 h0;rw [decide_eq_true h0,Bool.true_and];refine biE (fun h1=>?_) fun h1=>?_
  ·have h1:(s.length:Int)<=16:=dT h1;rw [decide_eq_true (p:=s.length<=16) (by omega),Bool.true_and];refine⟨0,rfl,hp,s[0],zfI hp,?_⟩;have e0:s.getD 0 0=s[0]:=by rw [gDe,gE hp];rfl
   rw [e0];refine cmo (zhA s[0] w) ?_;rintro e _ ⟨rfl,rfl⟩;refine biE (fun h2=>?_) fun h2=>?_
   ·have h2:zcs s[0]=true:=h2;rw [h2,Bool.true_and];refine cmo (zig s 0 (Nat.zero_le _) hs w) ?_;rintro e _ ⟨rfl,rfl⟩;have hd:decide (((runE za7 s 0:Nat):Int)=(s.length:Int))=decide (runE za7 s 0=s.length):=zaH;refine biE (fun h3=>?_) fun h3=>?_
    ·have h3:decide (runE za7 s 0=s.length)=true:=hd.symm.trans h3;rw [h3,Bool.true_and];refine cmo (zmY s w hg) ?_;rintro e _ ⟨rfl,rfl⟩;exact⟨rfl,rfl⟩
    ·have h3:decide (runE za7 s 0=s.length)=false:=hd.symm.trans h3;refine⟨rb ?_,rfl⟩;rw [h3];rfl
   ·have h2:zcs s[0]=false:=h2;refine brF ?_;refine⟨rb ?_,rfl⟩;rw [h2];rfl
  ·have h1:¬ (s.length:Int)<=16:=dF h1;refine brF ?_;refine brF ?_;refine⟨rb ?_,rfl⟩;rw [decide_eq_false (p:=s.length<=16) (by omega)];rfl
 ·have h:(!decide (s=[]))=false:=h;have h0:s=[]:=by simpa using h
  refine brF ?_;refine brF ?_;refine brF ?_;refine⟨rb ?_,rfl⟩;rw [h0];rfl
structure ChkB (kb l:Nat) (lets:Bs->Bool) (n:Nat) (w:World):Prop where
 f:w.heap[kb]?=some (.cells #[.map (some l),i64 (n:Nat)] 115 (0,0))
 lm:MapF keyS w l (mapB lets)
 ne:l≠kb
 og:4<kb
 ol:4<l
 glob:GlobK w
section
variable {kb l:Nat} {lets:Bs->Bool} {n:Nat} {w w2 X Y:World} {Q:Nat->Prop}
theorem ChkB.lt (h:ChkB kb l lets n w):kb<w.heap.size:=hlt h.f
theorem ChkB.below (h:ChkB kb l lets n w) (hb:Bw w w2):ChkB kb l lets n w2:=⟨zab hb h.f,h.lm.below hb,h.ne,h.og,h.ol,h.glob.below hb⟩
theorem ChkB.count (h:ChkB kb l lets n w) {m:Nat} {K:World->Prop} (k:∀ Y,ChkB kb l lets m Y->w.grownBy Y (some kb)->K Y) :
  SatR ((storeVar 3 ⟨kb,1,none⟩ (i64 (m:Nat))).run Tryz.prog w) fun _ w'=>K w':=by
 have hn:=h.ne;exact zaq k3 h.f (o:=1) (v:=i64 (m:Nat)) rfl rfl (by show 1<2;decide) rfl fun Y fY gY _=>k Y ⟨fY,h.lm.same (gY.block l (zb5 h.lm) (by simp;omega)),hn,h.og,h.ol,h.glob.grown h.og gY⟩ gY
structure ChT (Q:Nat->Prop) (w:World) (kb l:Nat) (lets:Bs->Bool) (n tb:Nat) (t:Trm) (q:Option Addr) (cap:Nat) (X:World):Prop where
 p:ChkB kb l lets n X
 x:X.heap[tb]?=some (.cells (zad t q cap).toArray 34 (0,0))
 k:KidsT Q X q t.kids
 o:w.grownBy X (some kb)
 ne:tb≠kb
theorem ChT.grown {m tb:Nat} {t:Trm} {q:Option Addr} {cap:Nat} (hQ:∀ b,Q b->b≠kb) (h:ChT Q w kb l lets n tb t q cap X) (hY:ChkB kb l lets m Y) (g:X.grownBy Y (some kb)):ChT Q w kb l lets m tb t q cap Y:=by
 have hne:=h.ne;exact⟨hY,(g.block _ (hlt h.x) (by simp;omega)).trans h.x,h.k.by fun b cs ty fr hb hc=>g.block b (hlt hc) (by have:=hQ b hb;simp;omega),zaf h.o g,hne⟩
theorem zqe (hg:GlobK w) {k:Nat} (hk:k<10):w.cell? ⟨1,0+k,none⟩=some (i64 (zdm k)):=by
 refine zac hg.nd ?_;have hk:k<zht.length:=hk;rw [List.getElem?_map,gE hk];unfold zdm;rw [gDe];show some (i64 zht[k])=some (i64 ((zht[k]?).getD (-1)));rw [gE hk];rfl
def ChkC (kb l:Nat) (lets:Bs->Bool) (Q:Nat->Prop) (t:Trm):Prop:=∀ (n:Nat) (q:Option Addr) (cap:Nat) (w:World),n<=400->ChkB kb l lets n w->t.name.length<=140737488351232->KidsT Q w q t.kids ->
 Calls Tryz.prog 50 #[At0 kb,.agg (zad t q cap).toArray] w fun e w'=>e = .returned (.bool (chkT lets n t).1)/\ChkB kb l lets (chkT lets n t).2 w'/\w.grownBy w' (some kb)
theorem zso (hQ:∀ b,Q b->b≠kb) {k:UInt8} {nq:Bs} {kids:List Trm} (ih:∀ x∈kids,ChkC kb l lets Q x):ChkC kb l lets Q (.mk k nq kids):=by
 intro n q cap w hn hB hnm hkd;refine cofM 71 [At0 kb,.agg (zad (.mk k nq kids) q cap).toArray] (.c .p (.c .p (.c .p (.c .p (.c .p (.c .p .p)))))) Tryz.func50 ?_;obtain⟨R,hR⟩:=nm (chkT lets n (.mk k nq kids));rw [<- hR];rw [chkT] at hR;have hkb:=hB.lt;have hkl:kids.length<=140737488351232:=hkd.inv.1;have nk:∀ m:UInt8,decide ((k.toNat:Int)=(m.toNat:Int))=decide (k=m):=fun m=>zcO k m;refine⟨Unit,fun _=>⟨[(0,At0 kb),(3,At0 w.heap.size)],[]⟩,fun _ X=>ChT Q w kb l lets n w.heap.size (.mk k nq kids) q cap X,⟨(),(cvE rfl rfl),hB.below (zba _ _),hnew w _,hkd.kept (zba _ _),zag (zba _ _),by omega⟩,?_⟩;rintro _ X hX;refine⟨Unit,fun _=>⟨[(0,At0 kb),(3,At0 w.heap.size)],[]⟩,fun _ X=>ChT Q w kb l lets (n+1) w.heap.size (.mk k nq kids) q cap X,?_,?_⟩
 ·refine⟨_,zac (zaa hX.p.f) (i:=1) rfl,?_⟩;refine nxI (by omega) ?_;refine hX.p.count (m:=n+1) fun Y hY gY=>?_;exact⟨(),(cvE rfl rfl),hX.grown hQ hY gY⟩
 clear hX hB;rintro _ X hX;have no:∀ {Y:World},ChT Q w kb l lets (n+1) w.heap.size (.mk k nq kids) q cap Y->R=(false,n+1)->Ending.returned (.bool false) = .returned (.bool R.1)/\ChkB kb l lets R.2 Y/\w.grownBy Y (some kb):=fun {Y} hY hR=>⟨rb (congrArg Prod.fst hR).symm,by rw [hR];exact hY.p,hY.o⟩;refine⟨Unit,fun _=>⟨[(0,At0 kb),(3,At0 w.heap.size)],[]⟩,fun _ X=>ChT Q w kb l lets (n+1) w.heap.size (.mk k nq kids) q cap X/\¬ (n+1 > 400\/k.toNat ≥ 10\/(kids.length:Int)≠zdm k.toNat),?_,?_⟩
 ·refine DrawE.ord [] [0,1,2,3,4,5,6,7,8,9,10,11,12,13,14,15,16,17,18,19,20] (by kernel_rfl) ?_;have bD:=(Below.refl X.heap.size X).drew;have hD:ChT Q w kb l lets (n+1) w.heap.size (.mk k nq kids) q cap X.drew:=hX.grown hQ (hX.p.below bD) (zag bD);refine⟨_,zac (zaa hD.p.f) (i:=1) rfl,?_⟩;have bad:(n+1 > 400\/k.toNat ≥ 10\/(kids.length:Int)≠zdm k.toNat)->R=(false,n+1):=fun h=>by rw [hR,if_pos h]
  refine biE (fun h1=>?_) fun h1=>?_
  ·have h1:(400:Int)<((n+1:Nat):Int):=dT h1;refine brT ?_;refine brT ?_;exact no hD (bad (.inl (by omega)))
  have h1:¬ (400:Int)<((n+1:Nat):Int):=dF h1;refine⟨_,zac (zaa hD.x) (i:=0) rfl,?_⟩;have hk8:=k.toNat_lt;refine⟨(k.toNat:Int),zai (a:=(k.toNat:Int)) (by omega),?_⟩;refine biE (fun h2=>?_) fun h2=>?_
  ·have h2:(10:Int)<=(k.toNat:Int):=dT h2;refine brT ?_;exact no hD (bad (.inr (.inl (by omega))))
  have h2:¬ (10:Int)<=(k.toNat:Int):=dF h2;refine⟨_,zac (zaa hD.x) (i:=2) rfl,?_⟩;refine⟨_,zac (zaa hD.x) (i:=0) rfl,?_⟩;refine⟨k.toNat,rfl,by omega,?_⟩;refine⟨_,by rw [Nat.mul_one];exact zqe hD.p.glob (by omega),?_⟩;refine biE (fun h3=>?_) fun h3=>?_
  ·have h3:(!decide ((kids.length:Int)=zdm k.toNat))=true:=h3;exact no hD (bad (.inr (.inr (by simpa using h3))))
  ·have h3:(!decide ((kids.length:Int)=zdm k.toNat))=false:=h3;have h3:(kids.length:Int)=zdm k.toNat:=by simpa using h3
   exact⟨(),(cvE rfl rfl),hD,by rintro (h | h | h);omega;omega;exact h h3⟩
 clear hX;rintro _ X ⟨hX,hgood⟩;rw [if_neg hgood] at hR;refine⟨Unit,fun _=>⟨[(0,At0 kb),(3,At0 w.heap.size)],[]⟩,fun _ X=>ChT Q w kb l lets (n+1) w.heap.size (.mk k nq kids) q cap X/\k≠1/\k≠9,?_,?_⟩
 ·refine⟨_,zac (zaa hX.x) (i:=0) rfl,?_⟩;refine biE (fun h1=>?_) fun h1=>?_
  ·have h1:k=1:=dT ((nk 1).symm.trans h1);rw [if_pos h1] at hR;refine DrawE.ord [] [0,1,2,3,4,5,6,7,8,9,10,11,12] (by kernel_rfl) ?_;have bD:=(Below.refl X.heap.size X).drew;have hD:ChT Q w kb l lets (n+1) w.heap.size (.mk k nq kids) q cap X.drew:=hX.grown hQ (hX.p.below bD) (zag bD);refine⟨_,zac (zaa hD.x) (i:=1) rfl,?_⟩;refine cmo (zhF nq _) ?_;rintro e _ ⟨rfl,rfl⟩;refine⟨Below.refl _ _,?_⟩;refine biE (fun h2=>?_) fun h2=>?_
   ·have h2:relB nq=true:=h2;exact⟨rb (by rw [hR,h2];rfl),by rw [hR];exact hD.p,hD.o⟩
   ·have h2:relB nq=false:=h2;refine⟨_,zac (zaa hD.p.f) (i:=0) rfl,?_⟩;refine⟨_,zac (zaa hD.x) (i:=1) rfl,?_⟩;refine⟨_,fun w2 hb=>zeD (hD.p.lm.below hb) nq,?_⟩;exact⟨rb (by rw [hR,h2];rfl),by rw [hR];exact hD.p,hD.o⟩
  have h1:k≠1:=dF ((nk 1).symm.trans h1);rw [if_neg h1] at hR;refine biE (fun h2=>?_) fun h2=>?_
  ·have h2:k=9:=dT ((nk 9).symm.trans h2);rw [if_pos h2] at hR;refine⟨_,zac (zaa hX.x) (i:=1) rfl,?_⟩;refine cmo (zmX nq X) ?_;rintro e _ ⟨rfl,rfl⟩;exact⟨rb (congrArg Prod.fst hR).symm,by rw [hR];exact hX.p,hX.o⟩
  ·have h2:k≠9:=dF ((nk 9).symm.trans h2);exact⟨(),(cvE rfl rfl),hX,h1,h2⟩
 clear hX;rintro _ X ⟨hX,h1,h9⟩;rw [if_neg h1,if_neg h9] at hR;refine⟨Unit,fun _=>⟨[(0,At0 kb),(3,At0 w.heap.size)],[]⟩,fun _ X=>ChT Q w kb l lets (n+1) w.heap.size (.mk k nq kids) q cap X/\nq=[],?_,?_⟩
 ·refine⟨_,zac (zaa hX.x) (i:=1) rfl,?_⟩;refine⟨_,fun w=>zfY _ _ nq [] w,?_⟩;refine biE (fun h2=>?_) fun h2=>?_
  ·have h2:(!decide (nq=[]))=true:=h2;have h2:nq≠[]:=by simpa using h2
   rw [if_pos h2] at hR;exact no hX hR
  ·have h2:(!decide (nq=[]))=false:=h2;exact⟨(),(cvE rfl rfl),hX,by simpa using h2⟩
 clear hX;rintro _ X ⟨hX,hnm0⟩;rw [if_neg (fun h=>h hnm0)] at hR;refine⟨Nat,fun _=>⟨[],[]⟩,fun m X=>ChkB kb l lets m X/\w.grownBy X (some kb)/\R=(true,m),?_,?_⟩
 ·refine⟨_,zac (zaa hX.x) (i:=2) rfl,?_⟩;refine⟨Nat×Nat,fun y=>⟨[(0,At0 kb),(3,At0 w.heap.size),(60,.slice q kids.length cap),(61,i64 (kids.length:Nat)),(62,.int .i64 (y.1:Nat))],[]⟩,fun y X=>ChT Q w kb l lets y.2 w.heap.size (.mk k nq kids) q cap X/\y.1<=kids.length/\y.2<=400/\R=chkL lets y.2 (kids.drop y.1),fun y=>kids.length-y.1,(0,n+1),(cvE rfl rfl),⟨hX,Nat.zero_le _,by dsimp only;omega,hR⟩,?_⟩;clear hX hR;rintro⟨i,m⟩ X ⟨hX,hi,hm,hR⟩;dsimp only at hX hi hm hR ⊢;refine biE (fun hc=>?_) fun hc=>?_
  ·have hc:(i:Int)<(kids.length:Int):=dT hc;have hil:i<kids.length:=by omega
   obtain⟨_,b,o,hq,hcl⟩:=hX.k.inv;obtain⟨q2,c2,hnl,hQb,hcell,hk2⟩:=hcl i hil;have hcell:zav X ⟨b,o+i*3,none⟩ (zad kids[i] q2 c2):=hcell;have hk2:KidsT Q X q2 kids[i].kids:=hk2;have hnl:kids[i].name.length<=140737488351232:=hnl;obtain rfl:q=some ⟨b,o,none⟩:=by
    rcases hq with h | h
    ·have h:kids.length=0:=h;omega
    ·exact h
   have hbs:b<X.heap.size:=by
    have h0:=hcell 0 _ rfl;unfold World.cell? at h0
    split at h0
    ·rename_i hb;exact hlt hb
    ·cases h0
   refine⟨i,rfl,hil,?_⟩;refine⟨zad kids[i] q2 c2,rfl,hcell,hbs,?_⟩;refine zal (X:=X) (v := .agg (zad kids[i] q2 c2).toArray) k34 rfl rfl rfl fun Y hbY fY sY=>?_;have hY:ChT Q w kb l lets m w.heap.size (.mk k nq kids) (some ⟨b,o,none⟩) cap Y:=hX.grown hQ (hX.p.below hbY) (zag hbY);refine⟨zad kids[i] q2 c2,rfl,zaa fY,hlt fY,?_⟩;refine cmo (ih kids[i] (gM hil) m q2 c2 Y hm hY.p hnl (hk2.kept hbY)) ?_;have hmono:=zhU lets m kids[i];rw [List.drop_eq_getElem_cons hil,chkL] at hR;rcases hck:chkT lets m kids[i] with ⟨b2,m2⟩;rw [hck] at hR hmono;rintro e Z ⟨rfl,hZ,gZ⟩;dsimp only at hZ hmono ⊢;have hZZ:=hY.grown hQ hZ gZ;refine biE (fun hb=>?_) fun hb=>?_
   ·have hb:(!b2)=true:=hb;have hb:b2=false:=(by simpa using hb);subst hb;have hR:R=(false,m2):=hR;exact⟨rb (congrArg Prod.fst hR).symm,by rw [hR];exact hZ,hZZ.o⟩
   ·have hb:(!b2)=false:=hb;have hb:b2=true:=(by simpa using hb);subst hb;refine nxI (by omega) ?_;exact⟨(i+1,m2),(cvE rfl rfl),⟨hZZ,hil,hmono.2 rfl,hR⟩,by dsimp only;omega⟩
  ·have hc:¬ (i:Int)<(kids.length:Int):=dF hc;rw [List.drop_of_length_le (by omega),chkL] at hR;exact⟨m,⟨.nil,rfl⟩,hX.p,hX.o,hR⟩
 clear hX hR;rintro m X ⟨hX,gX,hR⟩;exact⟨rb (congrArg Prod.fst hR).symm,by rw [hR];exact hX,gX⟩
theorem zsp (hQ:∀ b,Q b->b≠kb):∀ t,ChkC kb l lets Q t
 | .mk k nq kids=>zso hQ fun x hx=>zsp hQ x
end
structure LnB (w0 w:World) (kb l cb:Nat) (lets checks:Bs->Bool) (n:Nat) (X:World):Prop where
 p:ChkB kb l lets n X
 c:MapF keyS X cb (mapB checks)
 b:Bw w0 X
 o:Oth kb l l w X
 lo:w0.heap.size<=kb/\w0.heap.size<=l/\w0.heap.size<=w.heap.size
 hi:kb<w.heap.size/\l<w.heap.size/\w.heap.size<=cb
section
variable {w0 w X Y:World} {kb l cb n m:Nat} {lets checks:Bs->Bool}
theorem LnB.grown (h:LnB w0 w kb l cb lets checks n X) (hY:ChkB kb l lets m Y) (g:X.grownBy Y (some kb)):LnB w0 w kb l cb lets checks m Y:=by
 have h1:=h.lo;have h2:=h.hi;refine⟨hY,h.c.same (g.block _ (zb5 h.c) (by simp;omega)),h.b.trans (zak g h.b.size h1.1),h.o.trans (.of_grown g),h1,h2⟩
theorem LnB.below (h:LnB w0 w kb l cb lets checks n X) (hb:Bw X Y):LnB w0 w kb l cb lets checks n Y :=
 h.grown (h.p.below hb) (zag hb)
theorem LnB.setL (h:LnB w0 w kb l cb lets checks n X) (nq:Bs) {K:World->Prop} (k:∀ Y,LnB w0 w kb l cb (setP lets nq) checks n Y->X.grownBy Y (some l)->K Y) :
  SatR ((Instr.mapUpdate 104 (.map (some l)) (strV nq) (.bool true)).run Tryz.prog X) fun _ w'=>K w':=by
 obtain⟨o,hr,hm⟩:=zbB skey Tryz.underlying104 h.p.lm nq (.bool true);have h1:=h.lo;have h2:=h.hi;have h3:=h.p.ne;have gr:=zeG X l o;refine SatR.mk hr (k _ ⟨⟨(gr.block _ (hlt h.p.f) (by simp;omega)).trans h.p.f,by rw [zfq] at hm;exact hm,h3,h.p.og,h.p.ol,h.p.glob.grown h.p.ol gr⟩,h.c.same (gr.block _ (zb5 h.c) (by simp;omega)),h.b.trans (zak gr h.b.size h1.2.1),?_,h1,h2⟩ gr);exact h.o.trans ⟨gr.os,gr.tape,gr.output,gr.size,fun j hj _ hn _=>gr.block j hj (by simp;omega)⟩
theorem LnB.setC (h:LnB w0 w kb l cb lets checks n X) (nq:Bs) {K:World->Prop} (k:∀ Y,LnB w0 w kb l cb lets (setP checks nq) n Y->X.grownBy Y (some cb)->K Y) :
  SatR ((Instr.mapUpdate 104 (.map (some cb)) (strV nq) (.bool true)).run Tryz.prog X) fun _ w'=>K w':=by
 obtain⟨o,hr,hm⟩:=zbB skey Tryz.underlying104 h.c nq (.bool true);have h1:=h.lo;have h2:=h.hi;have h3:=h.p.ne;have h4:=h.p.og;have gr:=zeG X cb o;refine SatR.mk hr (k _ ⟨⟨(gr.block _ (hlt h.p.f) (by simp;omega)).trans h.p.f,h.p.lm.same (gr.block _ (zb5 h.p.lm) (by simp;omega)),h3,h4,h.p.ol,h.p.glob.grown (by omega) gr⟩,by rw [zfq] at hm;exact hm,h.b.trans (zak gr h.b.size (by omega)),?_,h1,h2⟩ gr);exact h.o.then (zak gr h.o.size (by omega))
theorem zqk {ls:List LineD} {p:Option Addr} {cap:Nat} (hM:LinsM (fun _=>True) w0 p ls) (hlen:ls.length<=140737488351232) (hB:ChkB kb l lets n w) (hn:n<=400) (hb:Bw w0 w) (h1:w0.heap.size<=kb) (h2:w0.heap.size<=l) :
  Calls Tryz.prog 111 #[At0 kb,.slice p ls.length cap] w fun e w'=>∃ lets' m,e = .returned (.bool (decide (ls.length<=40)&&(zaX lets (fun _=>false) n ls).1))/\(ls.length<=40->(zaX lets (fun _=>false) n ls).1=true->lets'=(zaX lets (fun _=>false) n ls).2)/\ChkB kb l lets' m w'/\Oth kb l l w w'/\Bw w0 w':=by
 refine cofM 54 [At0 kb,.slice p ls.length cap] (.s .p (.c .p (.s .p (.s (.s .p (.b (.l (.s .p (.s .p (.s (.b (.c .p (.c .p (.s .p (.c .p (.c .p .p)))))) .p)))))) .p)))) Tryz.func111 ?_;have hkb:=hB.lt;have hll:=zb5 hB.lm;obtain⟨rows,hrl,hrow,hrk,_⟩:=hM;have hrn:rows.length=ls.length:=by rw [<- hrl,List.length_map]
 refine⟨Nat,fun cb=>⟨[(0,At0 kb),(1,.slice p ls.length cap),(5,.map (some cb))],[]⟩,fun cb X=>LnB w0 w kb l cb lets (fun _=>false) n X,?_,?_⟩
 ·refine⟨Value.map (some w.heap.size),w.alloc (.map #[] 0),rfl,?_⟩;have m3:MapF (key:=keyS) (w.alloc (.map #[] 0)) w.heap.size (fun (_:Bs)=>none):=MapF.new;exact⟨w.heap.size,(cvE rfl rfl),hB.below (zba _ _),m3,hb.trans ((zba w (.map #[] 0)).mono hb.size),.of_below (zba _ _),⟨h1,h2,hb.size⟩,hkb,hll,Nat.le_refl _⟩
 rintro cb X hX;refine biE (fun h3=>?_) fun h3=>?_
 ·have h3:(40:Int)<(ls.length:Int):=dT h3;exact⟨lets,n,rb (by rw [decide_eq_false (by omega)];rfl),fun h=>absurd h (by omega),hX.p,hX.o,hX.b⟩
 have h3:¬ (40:Int)<(ls.length:Int):=dF h3;obtain⟨R,hR⟩:=nm (zaX lets (fun _=>false) n ls);rw [<- hR,decide_eq_true (p:=ls.length<=40) (by omega),Bool.true_and];have fin:∀ {Z:World} {lets2 checks2:Bs->Bool} {m:Nat} {lets3:Bs->Bool},LnB w0 w kb l cb lets2 checks2 m Z->R=(false,lets3)->∃ lets' m,Ending.returned (.bool false) = .returned (.bool R.1)/\(ls.length<=40->R.1=true->lets'=R.2)/\ChkB kb l lets' m Z/\Oth kb l l w Z/\Bw w0 Z:=fun {Z lets2 checks2 m lets3} hZ hR =>
  ⟨lets2,m,rb (congrArg Prod.fst hR).symm,(fun _ h=>by rw [hR] at h;cases h),hZ.p,hZ.o,hZ.b⟩
 refine⟨Nat×(Bs->Bool)×(Bs->Bool)×Nat,fun y=>⟨[(0,At0 kb),(5,.map (some cb)),(13,.slice p ls.length cap),(14,i64 (ls.length:Nat)),(15,.int .i64 (y.1:Nat))],[]⟩,fun y X=>LnB w0 w kb l cb y.2.1 y.2.2.1 y.2.2.2 X/\y.1<=ls.length/\y.2.2.2<=400/\R=zaX y.2.1 y.2.2.1 y.2.2.2 (ls.drop y.1),fun y=>ls.length-y.1,(0,lets,fun _=>false,n),(cvE rfl rfl),⟨hX,Nat.zero_le _,hn,hR⟩,?_⟩;clear hX hR;rintro⟨i,lets,checks,n⟩ X ⟨hX,hi,hn,hR⟩;dsimp only at hX hi hn hR ⊢;refine biE (fun hc=>?_) fun hc=>?_
 ·have hc:(i:Int)<(ls.length:Int):=dT hc;have hil:i<ls.length:=by omega
  have hir:i<rows.length:=by omega
  obtain⟨x,hx⟩:=nm (ls[i]);have hxr:rows[i].1=x:=by
   rw [hx];have:(rows.map (·.1))[i]?=ls[i]?:=by rw [hrl]
   rw [List.getElem?_map,gE hir,gE hil] at this;exact Option.some.inj this
  rw [List.drop_eq_getElem_cons hil,<- hx] at hR;rw [zaX] at hR;obtain⟨bk,o,hp,hbk,hcl⟩:=hrow.at hir;subst hp;obtain⟨k1,k2,k3,k4⟩:=hrk rows[i] (gM hir);have hcell:zav w0 ⟨bk,o+i*5,none⟩ (zat rows[i].1.kind rows[i].1.name rows[i].1.term rows[i].2.1 rows[i].2.2):=hcl i hir;rw [hxr] at hcell k1 k2 k3 k4;obtain⟨q,hq⟩:=nm (rows[i].2.1);obtain⟨cp,hcp⟩:=nm (rows[i].2.2);rw [<- hq,<- hcp] at hcell;rw [<- hq] at k4;have kd:KidsT (fun b=>b<w0.heap.size) w0 q x.term.kids:=k4.there.weak fun b hb=>hb.2;have kids:∀ {Z:World},Bw w0 Z->KidsT (fun b=>b<w0.heap.size) Z q x.term.kids:=fun {Z} hZ=>kd.by fun b cs ty fr hb hc=>hZ.block b hb
  clear k4 hrow hrk hcl;refine⟨Nat,fun b7=>⟨[(0,At0 kb),(5,.map (some cb)),(7,At0 b7),(13,.slice (some ⟨bk,o,none⟩) ls.length cap),(14,i64 (ls.length:Nat)),(15,.int .i64 (i:Nat))],[]⟩,fun b7 Y=>LnB w0 w kb l cb lets checks n Y/\Y.heap[b7]?=some (.cells (zat x.kind x.name x.term q cp).toArray 62 (0,0))/\w.heap.size<=b7/\b7≠cb,?_,?_⟩
  ·refine⟨i,rfl,hil,?_⟩;refine⟨zat x.kind x.name x.term q cp,rfl,zbb hX.b hbk hcell,nL hbk hX.b.size,?_⟩;refine zal (X:=X) (v := .agg (zat x.kind x.name x.term q cp).toArray) k62 rfl rfl rfl fun Y hbY fY sY=>?_;have:=zb5 hX.c;exact⟨X.heap.size,(cvE rfl rfl),hX.below hbY,fY,hX.o.size,by omega⟩
  clear hX X hcell;rintro b7 X ⟨hX,fx,hb7,hb7c⟩;have hnl:x.name.length<=140737488351232:=k2;refine⟨Nat,fun m=>⟨[(0,At0 kb),(5,.map (some cb)),(7,At0 b7),(13,.slice (some ⟨bk,o,none⟩) ls.length cap),(14,i64 (ls.length:Nat)),(15,.int .i64 (i:Nat))],[]⟩,fun m Y=>LnB w0 w kb l cb lets checks m Y/\Y.heap[b7]?=some (.cells (zat x.kind x.name x.term q cp).toArray 62 (0,0))/\m<=400/\¬ (x.kind > 3\/ze0 x.name=false)/\chkT lets n x.term=(true,m),?_,?_⟩
  ·refine⟨_,zac (zaa fx) (i:=0) rfl,?_⟩;have bad:(x.kind > 3\/ze0 x.name=false)->R=(false,lets):=fun h=>by rw [hR,if_pos h]
   refine biE (fun h4=>?_) fun h4=>?_
   ·have h4:(3:Int)<(x.kind:Int):=dT h4;refine brT ?_;refine brT ?_;exact fin hX (bad (.inl (by omega)))
   have h4:¬ (3:Int)<(x.kind:Int):=dF h4;refine⟨_,zac (zaa fx) (i:=1) rfl,?_⟩;refine cmo (zoJ x.name hnl X hX.p.glob) ?_;rintro e _ ⟨rfl,rfl⟩;refine biE (fun h5=>?_) fun h5=>?_
   ·have h5:(!ze0 x.name)=true:=h5;refine brT ?_;exact fin hX (bad (.inr (by simpa using h5)))
   have h5:(!ze0 x.name)=false:=h5;have h5:ze0 x.name=true:=by simpa using h5
   have hgood:¬ (x.kind > 3\/ze0 x.name=false):=by rintro (h | h);omega;rw [h5] at h;cases h
   rw [if_neg hgood] at hR;have ht:zav X ⟨b7,0+2,none⟩ (zad x.term q cp):=zbn (o:=2) (n:=3) fx;refine⟨zad x.term q cp,rfl,ht,hlt fx,?_⟩;have hck:=zsp (kb:=kb) (l:=l) (lets:=lets) (Q:=fun b=>b<w0.heap.size) (fun b hb=>by have:=hX.lo;omega) x.term n q cp X hn hX.p k3 (kids hX.b);have hmono:=zhU lets n x.term;rcases hce:chkT lets n x.term with ⟨b2,m⟩;rw [hce] at hR hck hmono;refine cmo hck ?_;rintro e Y ⟨rfl,hY,gY⟩;dsimp only at hY hmono ⊢;have hYY:=hX.grown hY gY;have h9:=hX.hi;have fY:=(gY.block _ (hlt fx) (by simp;omega)).trans fx;refine biE (fun h6=>?_) fun h6=>?_
   ·have h6:(!b2)=true:=h6;have h6:b2=false:=(by simpa using h6);subst h6;exact fin hYY hR
   ·have h6:(!b2)=false:=h6;have h6:b2=true:=(by simpa using h6);subst h6;exact⟨m,(cvE rfl rfl),hYY,fY,hmono.2 rfl,hgood,rfl⟩
  clear hX fx X;rintro m X ⟨hX,fx,hm,hgood,hce⟩;rw [if_neg hgood,hce] at hR;dsimp only at hR;refine⟨Nat,fun nb=>⟨[(0,At0 kb),(5,.map (some cb)),(7,At0 b7),(8,.map (some nb)),(13,.slice (some ⟨bk,o,none⟩) ls.length cap),(14,i64 (ls.length:Nat)),(15,.int .i64 (i:Nat))],[]⟩,fun nb Y=>X=Y/\((x.kind=0/\nb=l/\relB x.name=false)\/(x.kind≠0/\nb=cb)),?_,?_⟩
  ·refine⟨_,zac (zaa fx) (i:=0) rfl,?_⟩;refine biE (fun h4=>?_) fun h4=>?_
   ·have h4:(x.kind:Int)=0:=dT h4;rw [if_pos (by omega)] at hR;refine⟨_,zac (zaa hX.p.f) (i:=0) rfl,?_⟩;refine⟨_,zac (zaa fx) (i:=1) rfl,?_⟩;refine cmo (zhF x.name X) ?_;rintro e _ ⟨rfl,rfl⟩;refine biE (fun h5=>?_) fun h5=>?_
    ·have h5:relB x.name=true:=h5;rw [h5,Bool.true_or,if_pos rfl] at hR;exact fin hX hR
    ·have h5:relB x.name=false:=h5;exact⟨l,(cvE rfl rfl),rfl,.inl ⟨by omega,rfl,h5⟩⟩
   ·have h4:¬ (x.kind:Int)=0:=dF h4;exact⟨cb,(cvE rfl rfl),rfl,.inr ⟨by omega,rfl⟩⟩
  rintro nb _ ⟨rfl,hnb⟩;refine⟨Unit,fun _=>⟨[(0,At0 kb),(5,.map (some cb)),(7,At0 b7),(8,.map (some nb)),(13,.slice (some ⟨bk,o,none⟩) ls.length cap),(14,i64 (ls.length:Nat)),(15,.int .i64 (i:Nat))],[]⟩,fun nb Y=>X=Y/\((x.kind=0/\lets x.name=false)\/(x.kind≠0/\checks x.name=false)),?_,?_⟩
  ·refine⟨_,zac (zaa fx) (i:=1) rfl,?_⟩;obtain⟨gf,hm8,hgf⟩:∃ gf:Bs->Bool,MapF keyS X nb (mapB gf)/\((x.kind=0/\gf=lets/\relB x.name=false)\/(x.kind≠0/\gf=checks)):=by
    rcases hnb with ⟨e1,rfl,e3⟩ | ⟨e1,rfl⟩
    ·exact⟨lets,hX.p.lm,.inl ⟨e1,rfl,e3⟩⟩
    ·exact⟨checks,hX.c,.inr ⟨e1,rfl⟩⟩
   refine⟨_,fun w2 hb=>zeD (hm8.below hb) x.name,?_⟩;refine biE (fun h5=>?_) fun h5=>?_
   ·have h5:gf x.name=true:=h5;rcases hgf with ⟨e1,rfl,e3⟩ | ⟨e1,rfl⟩
    ·rw [if_pos e1,h5,Bool.or_true,if_pos rfl] at hR;exact fin hX hR
    ·rw [if_neg e1,if_pos h5] at hR;exact fin hX hR
   ·have h5:gf x.name=false:=h5;refine⟨(),(cvE rfl rfl),rfl,?_⟩;rcases hgf with ⟨e1,rfl,e3⟩ | ⟨e1,rfl⟩
    ·exact .inl ⟨e1,h5⟩
    ·exact .inr ⟨e1,h5⟩
  rintro _ _ ⟨rfl,hfr⟩;refine⟨_,zac (zaa fx) (i:=1) rfl,?_⟩;rcases hnb with ⟨e1,rfl,e3⟩ | ⟨e1,rfl⟩
  ·have hf:lets x.name=false:=by rcases hfr with h | h;exact h.2;exact absurd e1 h.1
   rw [if_pos e1,e3,hf,Bool.or_false,if_neg Bool.false_ne_true] at hR;refine hX.setL x.name fun Y hY _=>?_;refine nxI (by omega) ?_;exact⟨(i+1,setP lets x.name,checks,m),(cvE rfl rfl),⟨hY,hil,hm,hR⟩,by dsimp only;omega⟩
  ·have hf:checks x.name=false:=by rcases hfr with h | h;exact absurd h.1 e1;exact h.2
   rw [if_neg e1,hf,if_neg Bool.false_ne_true] at hR;refine hX.setC x.name fun Y hY _=>?_;refine nxI (by omega) ?_;exact⟨(i+1,lets,setP checks x.name,m),(cvE rfl rfl),⟨hY,hil,hm,hR⟩,by dsimp only;omega⟩
 ·have hc:¬ (i:Int)<(ls.length:Int):=dF hc;rw [List.drop_of_length_le (by omega),zaX] at hR;exact⟨lets,n,rb (congrArg Prod.fst hR).symm,(fun _ _=>by rw [hR]),hX.p,hX.o,hX.b⟩
end
theorem zhb (s:Bs):Go.Lib.strCells (bs s)=s.flatMap zaM.enc:=by
 have e1:Go.Lib.strCells (bs s)=s.map u8:=rfl;rw [e1]
 induction s with
 | nil=>rfl
 | cons a r ih=>rw [List.flatMap_cons,<- ih rfl];rfl
theorem zrc {w:World} {t u ty B cap:Nat} {p:Option Addr} {l:Bs} {iT:TI} (hu:Tryz.prog.underlying t=some (.slice 5)) (hs:Tryz.prog.underlying u=some .string) (hT:TIok Tryz.prog 5 iT) (hz:iT.zero=some [.int .u8 0]) (h1:iT.size=1) (hby:iT.bytes=1)
  (ho:OwnS zaM 5 B w p cap l) (s:Bs) (hl:l.length+s.length<=1000000000) (hB:B<=w.heap.size) {K:Value->World->Prop}
  (k:∀ p' cap' w',OwnS zaM 5 B w' p' cap' (l++s)->w.grownBy w' (Value.slice p l.length cap).ownBlock->K (.slice p' (l++s).length cap') w') :
  SatR ((Builtin.append_ #[t,u] ty #[.slice p l.length cap,strV s]).run Tryz.prog w) K:=by
 obtain⟨⟨inf,hi,hsz,hbb,hzz⟩,_⟩:=hT;obtain⟨zv,hzv,hzc⟩:=hzz _ hz;have hz0:zv = .int .u8 0:=by
  have he:inf.zero=some (.int .u8 0):=by
   have:(Tryz.prog.info? 5).bind (fun i=>i.zero)=some (.int .u8 0):=by kernel_rfl
   rw [hi] at this;exact this
  exact Option.some.inj (hzv.symm.trans he)
 subst hz0;obtain⟨v',w',hr,ho',hg,_⟩:=Go.Lib.run_append_own_string (P:=Tryz.prog) w B t u ty 5 inf hu hs hi hzv (hsz.trans h1) (hbb.trans hby) (.slice p l.length cap) l.length (l.flatMap zaM.enc) ho (bs s) (by unfold maxLen;show l.length+s.length<=_;omega) (by show l.length+s.length<=_;omega) hB;have e1:l.flatMap zaM.enc++Go.Lib.strCells (bs s)=(l++s).flatMap zaM.enc:=by
  rw [List.flatMap_append,zhb]
 have e2:l.length+(bs s).size=(l++s).length:=by rw [lap];rfl
 rw [e1,e2] at ho';refine SatR.mk hr ?_;rcases ho'.2 with ⟨rfl,h0⟩ | ⟨g,cap',cur,rfl,rest⟩
 ·have:K (.slice none (l++s).length 0) w':=k none 0 w' (by unfold OwnS;rw [h0] at ho' ⊢;exact ho') hg;rw [h0] at this;exact this
 ·exact k _ _ w' ho' hg
structure PrB (wb:Nat) (pr:Pr) (X:World):Prop where
 f:∃ q cap,X.heap[wb]?=some (.cells #[.slice q pr.text.length cap,i64 (pr.deep:Nat),i64 (pr.most:Nat)] 118 (0,0))/\OwnS zaM 5 (wb+1) X q cap pr.text
 og:4<wb
 glob:GlobK X
structure PrS (wb:Nat) (X Y:World):Prop where
 os:Y.os=X.os
 tape:Y.tape=X.tape
 output:Y.output=X.output
 size:X.heap.size<=Y.heap.size
 low:∀ j,j<wb->Y.heap[j]?=X.heap[j]?
 block:∀ (j:Nat) (cs:Array Value) (t:TypeId),j≠wb->t≠5->X.heap[j]?=some (.cells cs t (0,0))->Y.heap[j]?=X.heap[j]?
section
variable {wb tb:Nat} {pr pr2:Pr} {w X Y Z:World}
theorem PrS.refl:PrS wb X X:=⟨rfl,rfl,rfl,Nat.le_refl _,fun _ _=>rfl,fun _ _ _ _ _ _=>rfl⟩
theorem PrS.trans (h:PrS wb X Y) (k:PrS wb Y Z):PrS wb X Z :=
 ⟨k.os.trans h.os,k.tape.trans h.tape,k.output.trans h.output,Nat.le_trans h.size k.size,fun j hj=>(k.low j hj).trans (h.low j hj),fun j cs t h1 h2 h3=>(k.block j cs t h1 h2 ((h.block j cs t h1 h2 h3).trans h3)).trans (h.block j cs t h1 h2 h3)⟩
theorem PrS.of_below (h:Bw X Y) (hw:wb<=X.heap.size):PrS wb X Y :=
 ⟨h.os,h.tape,h.output,h.size,fun j hj=>h.block j (by omega),fun j cs t _ _ hc=>h.block j (hlt hc)⟩
theorem PrS.of_grown (h:X.grownBy Y (some wb)) (hw:wb<=X.heap.size):PrS wb X Y :=
 ⟨h.os,h.tape,h.output,h.size,fun j hj=>h.block j (by omega) (by simp;omega),fun j cs t hn _ hc=>h.block j (hlt hc) (by simp;omega)⟩
theorem PrB.lt (h:PrB wb pr X):wb<X.heap.size:=by
 obtain⟨_,_,f,_⟩:=h.f;exact hlt f
theorem PrB.below (h:PrB wb pr X) (hb:Bw X Y):PrB wb pr Y:=by
 obtain⟨q,cap,f,o⟩:=h.f;exact⟨⟨q,cap,zab hb f,o.below hb⟩,h.og,h.glob.below hb⟩
theorem PrB.num (h:PrB wb pr X) {deep most:Nat} {o:Nat} {v:Value} (ho:o=1/\v=i64 (deep:Nat)/\most=pr.most\/o=2/\v=i64 (most:Nat)/\deep=pr.deep) {K:World->Prop} (k:∀ Y,PrB wb { pr with deep:=deep,most:=most } Y->PrS wb X Y->K Y) :
  SatR ((storeVar 3 ⟨wb,o,none⟩ v).run Tryz.prog X) fun _ w'=>K w':=by
 obtain⟨q,cap,f,ow⟩:=h.f;have hw:=hlt f;have key:∀ Y,Y.heap[wb]?=some (.cells #[.slice q pr.text.length cap,i64 (deep:Nat),i64 (most:Nat)] 118 (0,0))->X.grownBy Y (some wb)->K Y:=fun Y fY gY =>
  k Y ⟨⟨q,cap,fY,ow.kept gY fun gg hg e=>by have h5:wb+1<=gg:=(zau ow hg).1;simp at e;omega⟩,h.og,h.glob.grown h.og gY⟩ (.of_grown gY (by omega))
 rcases ho with ⟨rfl,rfl,rfl⟩ | ⟨rfl,rfl,rfl⟩
 ·exact zaq k3 f (o:=1) rfl rfl (by show 1<3;decide) rfl fun Y fY gY _=>key Y fY gY
 ·exact zaq k3 f (o:=2) rfl rfl (by show 2<3;decide) rfl fun Y fY gY _=>key Y fY gY
theorem zoA {x y:Int} {T:Array TypeId} {t:TypeId} {w:World} {K:Value->World->Prop} (k:K (.int .i64 (if x<y then y else x)) w):SatR ((Builtin.max_ T t [Value.int .i64 x,.int .i64 y].toArray).run Tryz.prog w) K :=
 SatR.mk (v := .int .i64 (if x<y then y else x)) (w':=w) (by simp [Builtin.max_,Builtin.max2]) k
def catL:List Bs->Nat
 | []=>0
 | s::r=>s.length+catL r
theorem znz:∀ (l:List Bs) (i:Nat) (h:i<l.length),catL (l.drop i)=l[i].length+catL (l.drop (i+1)):=fun l i h=>by
 rw [List.drop_eq_getElem_cons h,catL]
def putL (pr:Pr) (l:List Bs):Pr:=l.foldl putW pr
theorem zrF {l:List Bs} {sb:Nat} (h:PrB wb pr X) (hs:X.heap[sb]?=some (.cells (l.map strV).toArray 9 (0,0))) (hne:sb≠wb) (hl:l.length<=10) (hlen:pr.text.length+catL l<=1000000) :
  Calls Tryz.prog 114 #[At0 wb,.slice (some ⟨sb,0,none⟩) l.length l.length] X fun e Y=>e = .returned (zcr [])/\PrB wb (putL pr l) Y/\PrS wb X Y:=by
 refine cofE 22 [At0 wb,.slice (some ⟨sb,0,none⟩) l.length l.length] Tryz.func114 ?_;obtain⟨R,hR⟩:=nm (putL pr l);rw [<- hR];refine⟨Nat×Pr,fun y=>⟨[(0,At0 wb),(6,.slice (some ⟨sb,0,none⟩) l.length l.length),(7,i64 (l.length:Nat)),(8,.int .i64 (y.1:Nat))],[]⟩,fun y Y=>PrB wb y.2 Y/\PrS wb X Y/\y.1<=l.length/\R=putL y.2 (l.drop y.1)/\y.2.text.length+catL (l.drop y.1)<=1000000,fun y=>l.length-y.1,(0,pr),(cvE rfl rfl),⟨h,.refl,Nat.zero_le _,hR,hlen⟩,?_⟩;clear hR hlen h;rintro⟨i,pr⟩ Y ⟨hY,sY,hi,hR,hlen⟩;dsimp only at hY hi hR hlen ⊢;have hsY:=(sY.block sb _ _ hne (by decide) hs).trans hs;refine biE (fun hc=>?_) fun hc=>?_
 ·have hc:(i:Int)<(l.length:Int):=dT hc;have hil:i<l.length:=by omega
  refine⟨i,rfl,hil,?_⟩;have hcell:Y.cell? ⟨sb,0+i,none⟩=some (strV l[i]):=zac (zaa hsY) (by simp [hil]);refine⟨_,by rw [Nat.mul_one];exact hcell,?_⟩;obtain⟨q,cap,f,ow⟩:=hY.f;have hwY:=hlt f;rw [znz l i hil] at hlen;refine⟨_,zac (zaa f) (i:=0) rfl,?_⟩;refine zrc Tryz.underlying80 Tryz.underlying9 k5 rfl rfl rfl ow l[i] (by omega) (by omega) fun q2 c2 V oV gV=>?_;have hwV:(Value.slice q pr.text.length cap).ownBlock≠some wb:=fun e=>by
   have:=(World.ownsRow.lt ow wb e).1;omega
  have fV:V.heap[wb]?=some (.cells #[.slice q pr.text.length cap,i64 (pr.deep:Nat),i64 (pr.most:Nat)] 118 (0,0)):=(gV.block wb hwY hwV.symm).trans f;refine zaq k80 fV (o:=0) (v := .slice q2 (pr.text++l[i]).length c2) rfl rfl (by show 0<3;decide) rfl fun Z fZ gZ _=>?_;have lowV:∀ j,j<=wb->V.heap[j]?=Y.heap[j]?:=fun j hj=>gV.block j (by omega) fun e=>by
   have:=(World.ownsRow.lt ow j e.symm).1;omega
  have sV:PrS wb Y V:=⟨gV.os,gV.tape,gV.output,gV.size,fun j hj=>lowV j (by omega),fun j cs t hn ht hc=>gV.block j (hlt hc) fun e=>by
   rcases q with _ | a
   ·simp [Value.ownBlock] at e
   ·rcases ow.inv with ⟨h0,_⟩ | ⟨gg,cur,h0,_,hg,_⟩
    ·cases h0
    ·cases h0
     simp [Value.ownBlock] at e;subst e;rw [hg] at hc;simp only [Option.some.injEq,Obj.cells.injEq] at hc;exact ht hc.2.1.symm⟩
  have hV:GlobK V:=⟨zaA (lowV _ (by have:=hY.og;exact Nat.le_of_lt (Nat.lt_of_le_of_lt (by decide) this))) hY.glob.op,zaA (lowV _ (by have:=hY.og;exact Nat.le_of_lt (Nat.lt_of_le_of_lt (by decide) this))) hY.glob.st,zaA (lowV _ (by have:=hY.og;exact Nat.le_of_lt (Nat.lt_of_le_of_lt (by decide) this))) hY.glob.sg,zaA (lowV _ (by have:=hY.og;exact Nat.le_of_lt (Nat.lt_of_le_of_lt (by decide) this))) hY.glob.nd,nL hY.glob.lt gV.size⟩;have hwsz:wb<=V.heap.size:=by have:=gV.size;omega
  refine nxI (by omega) ?_;refine⟨(i+1,putW pr l[i]),(cvE rfl rfl),⟨⟨⟨q2,c2,fZ,oV.kept gZ fun gg hg e=>by have h5:wb+1<=gg:=(zau oV hg).1;simp at e;omega⟩,hY.og,hV.grown hY.og gZ⟩,sY.trans (sV.trans (.of_grown gZ hwsz)),hil,?_,?_⟩,by dsimp only;omega⟩
  ·rw [hR,List.drop_eq_getElem_cons hil];rfl
  ·dsimp only;rw [zbc];omega
 ·have hc:¬ (i:Int)<(l.length:Int):=dF hc;rw [List.drop_of_length_le (by omega)] at hR;exact⟨rfl,by rw [hR];exact hY,sY⟩
theorem zc2 {l:List Bs} {n:Nat} (h:PrB wb pr X) (hn:l.length=n) (hl:l.length<=10) (hlen:pr.text.length+catL l<=1000000) :
  Calls Tryz.prog 114 #[At0 wb,.slice (some ⟨X.heap.size,0,none⟩) n n] (X.alloc (.cells (l.map strV).toArray 9)) fun e Y=>e = .returned (zcr [])/\PrB wb (putL pr l) Y/\PrS wb X Y:=by
 subst hn;have hw:=h.lt;refine cmo (zrF (h.below (zba _ _)) (hnew X _) (by omega) hl hlen) ?_;rintro e Y ⟨he,hY,sY⟩;exact⟨he,hY,(PrS.of_below (zba X _) (by omega)).trans sY⟩
structure PrX (w:World) (wb tb:Nat) (t:Trm) (q:Option Addr) (cap:Nat) (pr:Pr) (X:World):Prop where
 p:PrB wb pr X
 x:X.heap[tb]?=some (.cells (zad t q cap).toArray 34 (0,0))
 k:KidsT (fun b=>b<wb) X q t.kids
 o:PrS wb w X
 ne:tb≠wb
theorem PrX.step {t:Trm} {q:Option Addr} {cap:Nat} (h:PrX w wb tb t q cap pr X) (hY:PrB wb pr2 Y) (s:PrS wb X Y):PrX w wb tb t q cap pr2 Y :=
 ⟨hY,(s.block tb _ _ h.ne (by decide) h.x).trans h.x,h.k.by fun b cs ty fr hb hc=>s.low b hb,h.o.trans s,h.ne⟩
def PrC (wb:Nat) (t:Trm):Prop:=∀ (pr:Pr) (q:Option Addr) (cap:Nat) (X:World),PrB wb pr X->KidsT (fun b=>b<wb) X q t.kids->pr.text.length+40*nodesT t<=900000->pr.deep+nodesT t<=1000->pr.most<=1000 ->
 Calls Tryz.prog 51 #[At0 wb,.agg (zad t q cap).toArray] X fun e Y=>e = .returned (zcr [])/\PrB wb (prT pr t) Y/\PrS wb X Y
theorem zjb {t:Trm} (hv:VT t) (hT:PrC wb t) {least:Nat} (hl6:least<=6) {q:Option Addr} {cap:Nat} (r:List Trm) (h:PrB wb pr w) (hk:KidsT (fun b=>b<wb) w q t.kids) (hlen:pr.text.length+40*nodesT t+8<=900000) (hd:pr.deep+nodesT t+1<=1000) (hm:pr.most<=1000) :
  Calls Tryz.prog 115 #[At0 wb,.agg (zad t q cap).toArray,i64 (least:Nat)] w fun e Y=>e = .returned (zcr [])/\PrB wb (prHead pr least (t::r)) Y/\PrS wb w Y:=by
 refine cofM 56 [At0 wb,.agg (zad t q cap).toArray,i64 (least:Nat)] (.c .p (.s .p (.c .p (.c .p (.c .p (.c .p (.c .p (.c .p .p)))))))) Tryz.func115 ?_;have hw:=h.lt;obtain⟨R,hR⟩:=nm (prHead pr least (t::r));rw [<- hR];rw [prHead] at hR;have hk10:t.kind.toNat<10:=by cases hv;assumption
 refine⟨Unit,fun _=>⟨[(0,At0 wb),(2,i64 (least:Nat)),(4,At0 w.heap.size)],[]⟩,fun _ X=>PrX w wb w.heap.size t q cap pr X,⟨(),(cvE rfl rfl),h.below (zba _ _),hnew w _,hk.kept (zba _ _),.of_below (zba _ _) (by omega),by omega⟩,?_⟩;rintro _ X hX;refine⟨_,zac (zaa hX.x) (i:=0) rfl,?_⟩;refine⟨t.kind.toNat,rfl,by omega,?_⟩;refine⟨_,by rw [Nat.mul_one];exact zcC hX.p.glob hk10,?_⟩;have es:strL.getD t.kind.toNat 0=strN t.kind.toNat:=by
  have:∀ j:Fin 10,strL.getD j.1 0=strN j.1:=by decide
  exact this ⟨_,hk10⟩
 refine⟨Unit,fun _=>⟨[(0,At0 wb),(4,At0 w.heap.size)],[]⟩,fun _ Y=>X=Y/\¬ (strN t.kind.toNat=0\/strN t.kind.toNat ≥ least),?_,?_⟩
 ·have good:(strN t.kind.toNat=0\/strN t.kind.toNat ≥ least)->∃ us:List Value,us.length=3/\zav X ⟨w.heap.size,0,none⟩ us/\w.heap.size<X.heap.size/\Calls Tryz.prog 51 #[At0 wb,.agg us.toArray] X fun e Y=>e = .returned (zcr [])/\PrB wb R Y/\PrS wb w Y:=fun hc=>by
   rw [if_pos hc] at hR;refine⟨_,rfl,zaa hX.x,hlt hX.x,?_⟩;refine cmo (hT pr q cap X hX.p hX.k (by omega) (by omega) (by omega)) ?_;rintro e Y ⟨rfl,hY,sY⟩;exact⟨rfl,by rw [hR];exact hY,hX.o.trans sY⟩
  rw [<- es] at good ⊢;refine biE (fun h1=>?_) fun h1=>?_
  ·have h1:((strL.getD t.kind.toNat 0:Nat):Int)=0:=dT h1;refine brT ?_;obtain⟨us,u1,u2,u3,u4⟩:=good (.inl (by omega));refine⟨us,u1,u2,u3,?_⟩;refine cmo u4 ?_;rintro e Y ⟨rfl,hY,sY⟩;exact⟨rfl,hY,sY⟩
  have h1:¬ ((strL.getD t.kind.toNat 0:Nat):Int)=0:=dF h1;refine biE (fun h2=>?_) fun h2=>?_
  ·have h2:(least:Int)<=((strL.getD t.kind.toNat 0:Nat):Int):=dT h2;obtain⟨us,u1,u2,u3,u4⟩:=good (.inr (by omega));refine⟨us,u1,u2,u3,?_⟩;refine cmo u4 ?_;rintro e Y ⟨rfl,hY,sY⟩;exact⟨rfl,hY,sY⟩
  ·have h2:¬ (least:Int)<=((strL.getD t.kind.toNat 0:Nat):Int):=dF h2;exact⟨(),(cvE rfl rfl),rfl,by rintro (h | h) <;> omega⟩
 rintro _ _ ⟨rfl,hno⟩;rw [if_neg hno] at hR;refine⟨Unit,fun _=>⟨[(0,At0 wb),(4,At0 w.heap.size)],[]⟩,fun _ Y=>PrX w wb w.heap.size t q cap { pr with deep:=pr.deep+1 } Y,?_,?_⟩
 ·obtain⟨_,_,f,_⟩:=hX.p.f;refine⟨_,zac (zaa f) (i:=1) rfl,?_⟩;refine⟨((pr.deep+1:Nat):Int),(zai (by omega)).trans (by omega),?_⟩;refine hX.p.num (deep:=pr.deep+1) (most:=pr.most) (.inl ⟨rfl,rfl,rfl⟩) fun Y hY sY=>?_;exact⟨(),(cvE rfl rfl),hX.step hY sY⟩
 clear hX X;rintro _ X hX;refine⟨Unit,fun _=>⟨[(0,At0 wb),(4,At0 w.heap.size)],[]⟩,fun _ Y=>PrX w wb w.heap.size t q cap { pr with deep:=pr.deep+1,most:=max pr.most (pr.deep+1) } Y,?_,?_⟩
 ·refine DrawE.ord [12] [0,1,2,3,4,5,6,7,8,9,10,11,12] (by kernel_rfl) ?_;have bD:=(Below.refl X.heap.size X).drew;have hD:=hX.step (hX.p.below bD) (.of_below bD (Nat.le_of_lt hX.p.lt));obtain⟨_,_,f,_⟩:=hD.p.f;refine⟨_,zac (zaa f) (i:=2) rfl,?_⟩;refine⟨_,zac (zaa f) (i:=1) rfl,?_⟩;refine zoA ?_;have emax:(if ((pr.most:Nat):Int)<((pr.deep+1:Nat):Int) then ((pr.deep+1:Nat):Int) else ((pr.most:Nat):Int))=((max pr.most (pr.deep+1):Nat):Int):=by split <;> omega
  refine⟨Below.refl _ _,?_⟩;refine hD.p.num (deep:=pr.deep+1) (most:=max pr.most (pr.deep+1)) (.inr ⟨rfl,congrArg (Value.int .i64) emax,rfl⟩) fun Y hY sY=>?_;exact⟨(),(cvE rfl rfl),hD.step hY sY⟩
 clear hX X;rintro _ X hX;obtain⟨p2,hp2⟩:∃ p2:Pr,p2=putW { pr with deep:=pr.deep+1,most:=max pr.most (pr.deep+1) } [40]:=⟨_,rfl⟩;rw [<- hp2] at hR;have t2:p2.text.length=pr.text.length+1:=by rw [hp2,zbc];rfl
 have d2:p2.deep=pr.deep+1:=by rw [hp2];rfl
 have m2:p2.most=max pr.most (pr.deep+1):=by rw [hp2];rfl
 have npos:=zfU t;refine⟨Unit,fun _=>⟨[(0,At0 wb),(4,At0 w.heap.size)],[]⟩,fun _ Y=>PrX w wb w.heap.size t q cap p2 Y,?_,?_⟩
 ·refine⟨⟨by decide,by decide,rfl⟩,[strV [40]],rfl,?_⟩;refine cmo (zc2 (l:=[[40]]) hX.p rfl (by decide) (by show pr.text.length+(1+0)<=_;omega)) ?_;rintro e Y ⟨rfl,hY,sY⟩;rw [hp2];exact⟨(),(cvE rfl rfl),hX.step hY sY⟩
 clear hX X;rintro _ X hX;have hle:=zex t hv p2;refine⟨Unit,fun _=>⟨[(0,At0 wb),(4,At0 w.heap.size)],[]⟩,fun _ Y=>PrX w wb w.heap.size t q cap (prT p2 t) Y,?_,?_⟩
 ·refine⟨_,rfl,zaa hX.x,hlt hX.x,?_⟩;refine cmo (hT p2 q cap X hX.p hX.k (by omega) (by omega) (by omega)) ?_;rintro e Y ⟨rfl,hY,sY⟩;exact⟨(),(cvE rfl rfl),hX.step hY sY⟩
 clear hX X;rintro _ X hX;obtain⟨l1,l2,l3,l4⟩:=hle;refine⟨Unit,fun _=>⟨[(0,At0 wb),(4,At0 w.heap.size)],[]⟩,fun _ Y=>PrX w wb w.heap.size t q cap (putW (prT p2 t) [41]) Y,?_,?_⟩
 ·refine⟨⟨by decide,by decide,rfl⟩,[strV [41]],rfl,?_⟩;refine cmo (zc2 (l:=[[41]]) hX.p rfl (by decide) (by show (prT p2 t).text.length+(1+0)<=_;omega)) ?_;rintro e Y ⟨rfl,hY,sY⟩;exact⟨(),(cvE rfl rfl),hX.step hY sY⟩
 clear hX X;rintro _ X hX;obtain⟨_,_,f,_⟩:=hX.p.f;refine⟨_,zac (zaa f) (i:=1) rfl,?_⟩;have e1:(putW (prT p2 t) [41]).deep=(prT p2 t).deep:=rfl;refine⟨(((prT p2 t).deep-1:Nat):Int),(zai (by rw [e1];omega)).trans (by rw [e1];omega),?_⟩;refine hX.p.num (deep:=(prT p2 t).deep-1) (most:=(putW (prT p2 t) [41]).most) (.inl ⟨rfl,rfl,rfl⟩) fun Y hY sY=>?_;exact⟨rfl,by rw [hR];exact hY,hX.o.trans sY⟩
end
section
variable {wb tb:Nat} {pr pr2:Pr} {w X Y Z:World}
theorem PrX.kid {t:Trm} {q:Option Addr} {cap:Nat} (h:PrX w wb tb t q cap pr X) {i:Nat} (hi:i<t.kids.length) :
  ∃ b o q2 c2,q=some ⟨b,o,none⟩/\zav X ⟨b,o+i*3,none⟩ (zad t.kids[i] q2 c2)/\b<X.heap.size/\KidsT (fun b=>b<wb) X q2 t.kids[i].kids:=by
 obtain⟨_,b,o,hq,hcl⟩:=h.k.inv;obtain⟨q2,c2,_,_,hc,hk⟩:=hcl i hi;refine⟨b,o,q2,c2,by rcases hq with h | h;omega;exact h,hc,?_,hk⟩;have h0:=hc 0 _ rfl;unfold World.cell? at h0
 split at h0
 ·rename_i hb;exact hlt hb
 ·cases h0
theorem zpJ {α:Type} {l:List α} (h:l.length=2):l=[l[0],l[1]]:=by
 match l,h with
 | [a,b],_=>rfl
theorem zp9 {α:Type} {l:List α} (h:l.length=1):l=[l[0]]:=by
 match l,h with
 | [a],_=>rfl
theorem zmK {l:List Trm} (h:l.length=2):nodesK l=nodesT l[0]+nodesT l[1]:=by
 match l,h with
 | [a,b],_=>rw [nodesK,nodesK,nodesK];rfl
theorem zmL {l:List Trm} (h:l.length=1):nodesK l=nodesT l[0]:=by
 match l,h with
 | [a],_=>rw [nodesK,nodesK];rfl
theorem zrG {k:UInt8} {nq:Bs} {kids:List Trm} (hv:VT (.mk k nq kids)) (ih:∀ x∈kids,PrC wb x):PrC wb (.mk k nq kids):=by
 intro pr q cap w h hkd hlen hdp hms;refine cofM 67 [At0 wb,.agg (zad (.mk k nq kids) q cap).toArray] (.c .p (.s .p (.b (.s .p (.d .p (.s .p (.d .p (.c .p (.d (.c .p .p) (.c .p (.c .p (.c .p .p)))))))))))) Tryz.func51 ?_;obtain⟨hk10,hkl,hnl,hkv⟩:=hv.inv;have hle0:=zex _ hv pr;obtain⟨R,hR⟩:=nm (prT pr (.mk k nq kids));rw [<- hR] at hle0 ⊢;rw [prT] at hR;rw [nodesT] at hlen hdp;have hw:=h.lt;have nk:∀ m:UInt8,decide ((k.toNat:Int)=(m.toNat:Int))=decide (k=m):=fun m=>zcO k m;refine⟨Unit,fun _=>⟨[(0,At0 wb),(3,At0 w.heap.size)],[]⟩,fun _ X=>PrX w wb w.heap.size (.mk k nq kids) q cap pr X,⟨(),(cvE rfl rfl),h.below (zba _ _),hnew w _,hkd.kept (zba _ _),.of_below (zba _ _) (by omega),by omega⟩,?_⟩;rintro _ X hX;refine⟨_,zac (zaa hX.x) (i:=0) rfl,?_⟩;refine biE (fun h1=>?_) fun h1=>?_
 ·have h1:k=1:=dT ((nk 1).symm.trans h1);rw [if_pos h1] at hR;refine⟨_,zac (zaa hX.x) (i:=1) rfl,?_⟩;refine⟨⟨by decide,by decide,rfl⟩,[strV nq],rfl,?_⟩;refine cmo (zc2 (l:=[nq]) hX.p rfl (by show 1<=10;decide) (by show pr.text.length+(nq.length+0)<=_;omega)) ?_;rintro e Y ⟨rfl,hY,sY⟩;exact⟨rfl,by rw [hR];exact hY,hX.o.trans sY⟩
 have h1:k≠1:=dF ((nk 1).symm.trans h1);rw [if_neg h1] at hR;refine biE (fun h9=>?_) fun h9=>?_
 ·have h9:k=9:=dT ((nk 9).symm.trans h9);rw [if_pos h9] at hR;refine⟨_,zac (zaa hX.x) (i:=1) rfl,?_⟩;refine⟨⟨by decide,by decide,rfl⟩,[strV [91],strV nq,strV [93]],rfl,?_⟩;refine cmo (zc2 (l:=[[91],nq,[93]]) hX.p rfl (by show 3<=10;decide) (by show pr.text.length+(1+(nq.length+(1+0)))<=_;omega)) ?_;rintro e Y ⟨rfl,hY,sY⟩;exact⟨rfl,by rw [hR];exact hY,hX.o.trans sY⟩
 have h9:k≠9:=dF ((nk 9).symm.trans h9);rw [if_neg h9] at hR;refine⟨Bool,fun b=>⟨[(0,At0 wb),(3,At0 w.heap.size),(47,.bool b)],[]⟩,fun b Y=>X=Y/\(b=true->k=6\/k=7\/k=8)/\(b=false->¬ (k=6\/k=7\/k=8)),?_,?_⟩
 ·refine biE (fun h6=>?_) fun h6=>?_
  ·have h6':k=6:=dT ((nk 6).symm.trans h6);exact⟨true,⟨.cons rfl (.cons rfl (.cons (congrArg (fun b=>some (Value.bool b)) h6) .nil)),rfl⟩,rfl,fun _ => .inl h6',fun h=>absurd h (by decide)⟩
  have h6':k≠6:=dF ((nk 6).symm.trans h6);refine biE (fun h7=>?_) fun h7=>?_
  ·have h7':k=7:=dT ((nk 7).symm.trans h7);exact⟨true,⟨.cons rfl (.cons rfl (.cons (congrArg (fun b=>some (Value.bool b)) h7) .nil)),rfl⟩,rfl,fun _ => .inr (.inl h7'),fun h=>absurd h (by decide)⟩
  have h7':k≠7:=dF ((nk 7).symm.trans h7);refine⟨decide (k=8),⟨.cons rfl (.cons rfl (.cons (congrArg (fun b=>some (Value.bool b)) (nk 8)) .nil)),rfl⟩,rfl,fun h => .inr (.inr (dT h)),fun h=>?_⟩;have h:=dF h;rintro (e | e | e)
  ·exact h6' e
  ·exact h7' e
  ·exact h e
 rintro b _ ⟨rfl,hbt,hbf⟩;refine biE (fun hb=>?_) fun hb=>?_
 ·
  have h68:=hbt hb;rw [if_pos h68] at hR;have hl1:kids.length=1:=by
   rcases h68 with rfl | rfl | rfl
   all_goals
    have:(kids.length:Int)=1:=hkl;omega
  have hk0:0<(Trm.mk k nq kids).kids.length:=by show 0<kids.length;omega
  obtain⟨bk,o,q2,c2,rfl,hc,hbs,hk2⟩:=hX.kid hk0;have hc:zav X ⟨bk,o+0*3,none⟩ (zad kids[0] q2 c2):=hc;have hk2:KidsT (fun b=>b<wb) X q2 kids[0].kids:=hk2;have em:=zp9 hl1;have en:=zmL hl1;have hv0:=hkv kids[0] (gM _);have hh:prHead pr 5 kids=prHead pr 5 (kids[0]::[]):=congrArg (prHead pr 5) em;refine⟨Unit,fun _=>⟨[(0,At0 wb),(3,At0 w.heap.size)],[]⟩,fun _ Y=>PrX w wb w.heap.size (.mk k nq kids) (some ⟨bk,o,none⟩) cap (prHead pr 5 kids) Y,?_,?_⟩
  ·refine DrawE.ord [8] [0,1,2,3,4,5,6,7,8] (by kernel_rfl) ?_;have bD:=(Below.refl X.heap.size X).drew;have hD:=hX.step (hX.p.below bD) (.of_below bD (Nat.le_of_lt hX.p.lt));refine⟨_,zac (zaa hD.x) (i:=2) rfl,?_⟩;refine⟨0,rfl,by show 0<kids.length;omega,?_⟩;refine⟨zad kids[0] q2 c2,rfl,zar bD hc,hbs,?_⟩;refine⟨5,rfl,by decide,?_⟩;refine⟨_,zcC hD.p.glob (k:=5) (by decide),?_⟩;refine⟨((5:Nat):Int),(zai (by decide)).trans rfl,?_⟩;refine cmo (zjb hv0 (ih kids[0] (gM _)) (least:=5) (by decide) [] hD.p (hk2.kept bD) (by omega) (by omega) (by omega)) ?_;rintro e Y ⟨rfl,hY,sY⟩;rw [<- hh] at hY;exact⟨(),(cvE rfl rfl),hD.step hY sY⟩
  clear hX hc hbs hk2;rintro _ Y hY;have hhl:=zge (fun w=>zex kids[0] hv0 w) pr 5 [];rw [<- hh] at hhl;have hsl:=zfp k.toNat;refine⟨_,zac (zaa hY.x) (i:=0) rfl,?_⟩;refine⟨k.toNat,rfl,by omega,?_⟩;refine⟨_,by rw [Nat.mul_one];exact zhf hY.p.glob hk10,?_⟩;refine⟨⟨by decide,by decide,rfl⟩,[strV (zb1.getD k.toNat [])],rfl,?_⟩;refine cmo (zc2 (l:=[zb1.getD k.toNat []]) hY.p rfl (by show 1<=10;decide) (by show (prHead pr 5 kids).text.length+((zhg k.toNat).length+0)<=_;omega)) ?_;rintro e Z ⟨rfl,hZ,sZ⟩;exact⟨rfl,by rw [hR];exact hZ,hY.o.trans sZ⟩
 ·
  have h68:=hbf hb;rw [if_neg h68] at hR;have hl2:kids.length=2/\2<=k.toNat/\k.toNat<=5:=by
   have key:∀ j:Fin 10,j.1≠1->j.1≠9->j.1≠6->j.1≠7->j.1≠8->zdm j.1=2/\2<=j.1/\j.1<=5\/zdm j.1 = -1:=by decide
   have nk:∀ (m:UInt8),k≠m->k.toNat≠m.toNat:=fun m h e=>h (UInt8.toNat_inj.1 e);rcases key ⟨k.toNat,hk10⟩ (nk 1 h1) (nk 9 h9) (nk 6 (fun e=>h68 (.inl e))) (nk 7 (fun e=>h68 (.inr (.inl e)))) (nk 8 (fun e=>h68 (.inr (.inr e)))) with h | h
   ·have h':zdm k.toNat=2:=h.1;exact⟨by omega,h.2⟩
   ·have h:zdm k.toNat = -1:=h;omega
  obtain⟨hl2,hk2',hk5⟩:=hl2;have es:strL.getD k.toNat 0=strN k.toNat/\strN k.toNat<=4:=by
   have:∀ j:Fin 10,strL.getD j.1 0=strN j.1/\strN j.1<=4:=by decide
   exact this ⟨_,hk10⟩
  obtain⟨es,es4⟩:=es;have em:=zpJ hl2;have en:=zmK hl2;have hv0:=hkv kids[0] (gM _);have hv1:=hkv kids[1] (gM _);obtain⟨n,hn⟩:=nm (strN k.toNat);rw [<- hn] at hR es es4;have hh:prHead pr n kids=prHead pr n (kids[0]::[kids[1]]):=congrArg (prHead pr n) em;have hhl:=zge (fun w=>zex kids[0] hv0 w) pr n [kids[1]];rw [<- hh] at hhl;have hsl:=zfp k.toNat;obtain⟨a1,a2,a3,a4⟩:=hhl;refine⟨Unit,fun _=>⟨[(0,At0 wb),(3,At0 w.heap.size),(4,i64 (n:Nat))],[]⟩,fun _ Y=>X=Y,?_,?_⟩
  ·refine⟨_,zac (zaa hX.x) (i:=0) rfl,?_⟩;refine⟨k.toNat,rfl,by omega,?_⟩;have hsa:=zcC hX.p.glob hk10;rw [es] at hsa;refine⟨_,by rw [Nat.mul_one];exact hsa,?_⟩;exact⟨(),(cvE rfl rfl),rfl⟩
  rintro _ _ rfl;refine⟨Unit,fun _=>⟨[(0,At0 wb),(3,At0 w.heap.size),(4,i64 (n:Nat))],[]⟩,fun _ Y=>PrX w wb w.heap.size (.mk k nq kids) q cap (prHead pr n kids) Y,?_,?_⟩
  ·have hk0:0<(Trm.mk k nq kids).kids.length:=by show 0<kids.length;omega
   obtain⟨bk,o,q2,c2,rfl,hc,hbs,hk2⟩:=hX.kid hk0;have hc:zav X ⟨bk,o+0*3,none⟩ (zad kids[0] q2 c2):=hc;have hk2:KidsT (fun b=>b<wb) X q2 kids[0].kids:=hk2;refine⟨_,zac (zaa hX.x) (i:=2) rfl,?_⟩;refine⟨0,rfl,by show 0<kids.length;omega,?_⟩;refine⟨zad kids[0] q2 c2,rfl,hc,hbs,?_⟩;refine cmo (zjb hv0 (ih kids[0] (gM _)) (least:=n) (by omega) [kids[1]] hX.p hk2 (by omega) (by omega) (by omega)) ?_;rintro e Y ⟨rfl,hY,sY⟩;rw [<- hh] at hY;exact⟨(),(cvE rfl rfl),hX.step hY sY⟩
  clear hX;rintro _ Y hY;obtain⟨p3,hp3⟩:=nm (putW (putW (putW (prHead pr n kids) [32]) (zhg k.toNat)) [32]);rw [<- hp3] at hR;have t3:p3.text.length=(prHead pr n kids).text.length+1+(zhg k.toNat).length+1:=by rw [hp3,zbc,zbc,zbc];rfl
  have d3:p3.deep=pr.deep:=by rw [hp3];exact a2
  have m3:p3.most=(prHead pr n kids).most:=by rw [hp3];rfl
  refine⟨Unit,fun _=>⟨[(0,At0 wb),(3,At0 w.heap.size),(4,i64 (n:Nat))],[]⟩,fun _ Y=>PrX w wb w.heap.size (.mk k nq kids) q cap p3 Y,?_,?_⟩
  ·refine⟨_,zac (zaa hY.x) (i:=0) rfl,?_⟩;refine⟨k.toNat,rfl,by omega,?_⟩;refine⟨_,by rw [Nat.mul_one];exact zhf hY.p.glob hk10,?_⟩;refine⟨⟨by decide,by decide,rfl⟩,[strV [32],strV (zb1.getD k.toNat []),strV [32]],rfl,?_⟩;refine cmo (zc2 (l:=[[32],zb1.getD k.toNat [],[32]]) hY.p rfl (by show 3<=10;decide) (by show (prHead pr n kids).text.length+(1+((zhg k.toNat).length+(1+0)))<=_;omega)) ?_;rintro e Z ⟨rfl,hZ,sZ⟩;have hZ:PrB wb p3 Z:=by rw [hp3];exact hZ
   exact⟨(),(cvE rfl rfl),hY.step hZ sZ⟩
  clear hY Y;rintro _ Y hY;have hk1:1<(Trm.mk k nq kids).kids.length:=by show 1<kids.length;omega
  obtain⟨bk,o,q2,c2,rfl,hc,hbs,hk2⟩:=hY.kid hk1;have hc:zav Y ⟨bk,o+1*3,none⟩ (zad kids[1] q2 c2):=hc;have hk2:KidsT (fun b=>b<wb) Y q2 kids[1].kids:=hk2;refine⟨_,zac (zaa hY.x) (i:=2) rfl,?_⟩;refine⟨1,rfl,by show 1<kids.length;omega,?_⟩;refine⟨zad kids[1] q2 c2,rfl,hc,hbs,?_⟩;refine nxI (by omega) ?_;refine cmo (zjb hv1 (ih kids[1] (gM _)) (least:=n+1) (by omega) [] hY.p hk2 (by omega) (by omega) (by omega)) ?_;rintro e Z ⟨rfl,hZ,sZ⟩;refine⟨rfl,?_,hY.o.trans sZ⟩;rw [hR,show prTail p3 (n+1) kids=prTail p3 (n+1) [kids[0],kids[1]] from congrArg (prTail p3 (n+1)) em,prTail];exact hZ
theorem zp4:∀ t,VT t->PrC wb t
 | .mk k nq kids,hv=>zrG hv fun x hx=>zp4 x (hv.inv.2.2.2 x hx)
end
end Go.Proofs.YtkpkdmipjinoaaaGreatDoor
namespace Go.Proofs.YtkpkdmipjinoaaaGreatDoor
open Go.Vc
def zdI:List LineD->Nat
 | []=>0
 | x::r=>nodesT x.term+zdI r
theorem zmO {s:Bs} (h:ze0 s=true):s.length<=16:=by
 unfold ze0 at h;rw [bAT,bAT] at h;exact dT h.2.1
theorem zoa {f:Bs->Bool} {nq:Bs} (h:∀ s,f s=true->s.length<=16) (hn:nq.length<=16):∀ s,setP f nq s=true->s.length<=16:=fun s hs=>by
 unfold setP at hs;rw [Bool.or_eq_true] at hs;rcases hs with hs | hs
 ·rw [dT hs];exact hn
 ·exact h s hs
theorem zek:∀ (ls:List LineD) (lets checks:Bs->Bool) (n:Nat) (lets':Bs->Bool),(∀ s,lets s=true->s.length<=16)->n<=400->zaX lets checks n ls=(true,lets') ->
  (∀ x∈ls,x.kind<=3/\x.name.length<=16/\VT x.term)/\n+zdI ls<=400/\(∀ s,lets' s=true->s.length<=16)
 | [],lets,checks,n,lets',hl,hn,h=>by
  rw [zaX] at h;refine⟨fun x hx=>?_,by rw [zdI];exact hn,?_⟩
  ·cases hx
  ·rw [<- (Prod.mk.inj h).2];exact hl
 | l::r,lets,checks,n,lets',hl,hn,h=>by
  rw [zaX] at h
  split at h
  ·cases h
  ·rename_i hc;have hk:l.kind<=3:=Classical.byContradiction fun h=>hc (.inl (by omega));have hnm:ze0 l.name=true:=by
    cases hnb:ze0 l.name with
    | true=>rfl
    | false=>exact absurd (.inr hnb) hc
   have hnl:=zmO hnm
   split at h
   ·cases h
   ·rename_i n2 e;obtain⟨hv,hn2⟩:=ziU lets hl l.term n n2 e;have hm:=(zhU lets n l.term).2 (by rw [e]);rw [e] at hm;have hm:n2<=400:=hm;have fin:∀ {a b:Bs->Bool},(∀ s,a s=true->s.length<=16)->zaX a b n2 r=(true,lets')->(∀ x∈l::r,x.kind<=3/\x.name.length<=16/\VT x.term)/\n+zdI (l::r)<=400/\(∀ s,lets' s=true->s.length<=16):=fun {a b} ha hr=>by
     obtain⟨i1,i2,i3⟩:=zek r a b n2 lets' ha hm hr;refine⟨fun x hx=>?_,by rw [zdI];omega,i3⟩;rcases List.mem_cons.1 hx with rfl | hx
     ·exact⟨hk,hnl,hv⟩
     ·exact i1 x hx
    split at h
    ·split at h
     ·cases h
     ·exact fin (zoa hl hnl) h
    ·split at h
     ·cases h
     ·exact fin hl h
end Go.Proofs.YtkpkdmipjinoaaaGreatDoor
