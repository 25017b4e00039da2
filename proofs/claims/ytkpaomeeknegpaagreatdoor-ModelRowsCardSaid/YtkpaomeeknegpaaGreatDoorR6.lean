/- Contracts of functions, and plain facts, for the law that the last text of this claim proves. -/
import Derived.Test.YtkpaomeeknegpaaGreatDoorR5
import Derived.Test.YtkpaomeeknegpaaGreatDoorR2
import Derived.Test.YtkpaomeeknegpaaGreatDoorR3
set_option linter.unusedSimpArgs false
set_option linter.unusedVariables false
namespace Go.Proofs.YtkpaomeeknegpaaGreatDoor
open Go.Vc Go.RowKit Go.Sei
theorem zhD {key:Nat->Nat} {x:Nat}:∀ (B A:List Nat),(∀ y∈B,key y<key x)->jh key (B++A) x=B++jh key A x
 | [],A,_=>rfl
 | y::B,A,h=>by
  show (if key y<key x then y::jh key (B++A) x else x::y::(B++A))=_;rw [Gr (h y Kz),zhD B A fun z hz=>h z (JY _ hz)];rfl
theorem zhC {key:Nat->Nat} {x:Nat}:∀ r:List Nat,(jh key r x).length=r.length+1
 | []=>rfl
 | y::r=>by
  unfold jh
  split
  ·show (jh key r x).length+1=_;rw [zhC r];rfl
  ·rfl
theorem zel {key:Nat->Nat} {x a:Nat}:∀ r:List Nat,a∈jh key r x↔a=x\/a∈r
 | []=>by simp [jh]
 | y::r=>by
  unfold jh
  split
  ·rw [UD,zel r,UD];constructor
   ·rintro (h | h | h) <;> simp [h]
   ·rintro (h | h | h) <;> simp [h]
  ·simp
def zcq (key:Nat->Nat) (l:List Nat):List Nat:=l.foldl (fun acc x=>jh key acc x) []
theorem zlW (key:Nat->Nat) (l:List Nat) (x:Nat):zcq key (l++[x])=jh key (zcq key l) x:=by
 unfold zcq;rw [KT];rfl
theorem zci {key:Nat->Nat} {a:Nat}:∀ (l acc:List Nat),a∈l.foldl (fun acc x=>jh key acc x) acc↔a∈l\/a∈acc
 | [],acc=>by simp
 | x::l,acc=>by
  rw [QM,zci l,zel,UD];constructor
  ·rintro (h | h | h) <;> simp [h]
  ·rintro ((h | h) | h) <;> simp [h]
theorem zcj {key:Nat->Nat}:∀ (l acc:List Nat),(l.foldl (fun acc x=>jh key acc x) acc).length=l.length+acc.length
 | [],acc=>by simp
 | x::l,acc=>by
  rw [QM,zcj l,zhC,Qs];omega
theorem zfl {key:Nat->Nat} {l:List Nat} {a:Nat}:a∈zde key l↔a∈l:=by
 unfold zde;rw [List.mem_reverse,zci];simp
theorem zof {key:Nat->Nat} (l:List Nat):(zde key l).length=l.length:=by
 unfold zde;rw [Kj,zcj];rfl
section
variable {b c L g cap:Nat} {x:ExD} {q:OA} {w:Wd} {l:List Nat}
abbrev zbR (x:ExD):Nat->Nat:=fun i=>zbP (x.co.to i)
theorem zhB {B:Nat} (ho:OwnS zB 3 B w (some ⟨g,0,none⟩) cap l) (fx:ExH w b x q c) (fL:w.heap[L]?=some (.cells #[At0 b] 81 (0,0))) (hT:Tz64M w) (htg:1≠g) (hco:zH x.co.to) (h48:∀ a∈l,a<48) (hn:l.length<=20) (hn1:1<=l.length) :
  Calls PG 159 #[.slice (some ⟨g,0,none⟩) l.length cap,i64 0,i64 l.length,.func (.func 84) #[] #[At0 L]] w fun e w'=>e = .returned (.tuple #[])/\OwnS zB 3 B w' (some ⟨g,0,none⟩) cap (zde (zbR x) l)/\w.grownBy w' (some g):=by
 refine qj 53 [.slice (some ⟨g,0,none⟩) l.length cap,i64 0,i64 l.length,.func (.func 84) #[] #[At0 L]] (.c .p .p) Tryz.func159 ?_;obtain⟨E0,hE0⟩:∃ E0:List (Nat×Value),E0=[(0,.slice (some ⟨g,0,none⟩) l.length cap),(1,i64 0),(2,i64 l.length),(3,.func (.func 84) #[] #[At0 L])]:=⟨_,rfl⟩;have hbg:b≠g:=fun e=>by
  obtain⟨_,_,cur,hc⟩:=zy ho rfl;have hc:w.heap[g]?=_:=hc;rw [<- e,fx] at hc;simp at hc
 have hLg:L≠g:=fun e=>by
  obtain⟨_,_,cur,hc⟩:=zy ho rfl;have hc:w.heap[g]?=_:=hc;rw [<- e,fL] at hc;simp at hc
 refine⟨Unit,fun _=>⟨[(0,.slice (some ⟨g,0,none⟩) l.length cap),(1,i64 0),(2,i64 l.length),(3,.func (.func 84) #[] #[At0 L]),(8,i64 1)],[]⟩,fun _ X=>w=X,?_,?_⟩
 ·exact⟨1,ze (by omega),(),(cvE rfl rfl),rfl⟩
 rintro _ _ rfl;have hl0:l.take 1=(zcq (zbR x) (l.take 1)).reverse:=by
  cases l with
  | nil=>simp at hn1
  | cons a l=>rfl
 refine⟨Nat,fun i=>⟨[(0,.slice (some ⟨g,0,none⟩) l.length cap),(1,i64 0),(2,i64 l.length),(3,.func (.func 84) #[] #[At0 L]),(8,i64 (i:Nat))],[]⟩,fun i X=>(1<=i/\i<=l.length)/\OwnS zB 3 B X (some ⟨g,0,none⟩) cap ((zcq (zbR x) (l.take i)).reverse++l.drop i)/\w.grownBy X (some g),fun i=>l.length-i,1,
  (cvE rfl rfl),⟨⟨UY _,hn1⟩,by rw [<- hl0,JQ];exact ho,qc _ _⟩,?_⟩
 rintro i X ⟨⟨hi1,hi⟩,oX,gX⟩;dsimp only;refine biE (fun hc=>?_) fun hc=>?_
 ·have hc:(i:Int)<(l.length:Int):=dT hc;have hil:i<l.length:=by omega
  obtain⟨u,hu⟩:∃ u,l[i]=u:=⟨_,rfl⟩;have hum:u∈l:=by rw [<- hu];exact gM hil
  obtain⟨S,hS⟩:=nm (zcq (zbR x) (l.take i));have hSm:∀ a∈S,a<48:=fun a ha=>by
   rw [hS] at ha;have:=(zci (key:=zbR x) (l.take i) []).1 ha;rcases this with h | h
   ·exact h48 a (Ka h)
   ·cases h
  have hSl:S.length=i:=by
   rw [hS];unfold zcq;rw [zcj,Qu];simp;omega
  have htk:zcq (zbR x) (l.take (i+1))=jh (zbR x) S u:=by
   rw [tsg hil,hu,zlW,<- hS]
  rw [<- hS,<- JF hil,hu] at oX;refine⟨List Nat×List Nat,fun s=>⟨[(0,.slice (some ⟨g,0,none⟩) l.length cap),(1,i64 0),(2,i64 l.length),(3,.func (.func 84) #[] #[At0 L]),(8,i64 (i:Nat)),(9,i64 s.1.length)],[]⟩,fun s Y=>S.reverse=s.1++s.2/\(∀ y∈s.2,zbR x y<zbR x u)/\OwnS zB 3 B Y (some ⟨g,0,none⟩) cap (s.1++u::(s.2++l.drop (i+1)))/\w.grownBy Y (some g),fun s=>s.1.length,(S.reverse,[]),
   ⟨.cons rfl (.cons rfl (.cons rfl (.cons rfl (.cons rfl (.cons (by show _=some (i64 (S.reverse.length:Nat));rw [Kj,hSl];rfl) .nil))))),rfl⟩,⟨by rw [QK],fun y hy=>(by cases hy),oX,gX⟩,?_⟩
  clear oX gX;rintro⟨A,Bs⟩ Y ⟨hsp,hkB,oY,gY⟩;dsimp only at hsp hkB oY ⊢;have hAl:A.length<=i:=by
   have:=Gl List.length hsp;rw [Kj,hSl,lap] at this;omega
  have hdY:Bw Y Y.drew:=(Gd _ _).drew;have fin:∀ {Z:Wd},Bw Y Z->jh (zbR x) A.reverse u=u::A.reverse->((1<=i+1/\i+1<=l.length)/\OwnS zB 3 B Z (some ⟨g,0,none⟩) cap ((zcq (zbR x) (l.take (i+1))).reverse++l.drop (i+1))/\w.grownBy Z (some g)):=fun {Z} hb hins=>by
   refine⟨⟨by omega,hil⟩,?_,jq gY (hb.mono gY.size)⟩;have h1:S=Bs.reverse++A.reverse:=by rw [<- Km,<- hsp,Kb]
   rw [htk,h1,zhD _ _ (fun y hy=>hkB y (by simpa using hy)),hins];have h2:(Bs.reverse++u::A.reverse).reverse++l.drop (i+1)=A++u::(Bs++l.drop (i+1)):=by simp
   rw [h2];exact oY.below hb
  refine DrawE.ord [] [0,1,2,3,4,5,6,7,8,9,10,11,12,13,14,15,16] (by kernel_rfl) (biE (fun h=>?_) fun h=>?_)
  ·have h:(0:Int)<(A.length:Int):=dT h;obtain⟨A',y,hA⟩:∃ A' y,A=A'++[y]:=by
    refine⟨A.dropLast,A.getLast (fun e=>by rw [e] at h;simp at h),(List.dropLast_concat_getLast _).symm⟩
   subst hA;have hA'l:(A'++[y]).length=A'.length+1:=by simp
   rw [hA'l] at hAl h ⊢;have hrl:((A'++[y])++u::(Bs++l.drop (i+1))).length=l.length:=by
    have:=Gl List.length hsp;rw [Kj,hSl] at this;simp only [lap,Qs,QO,Qt] at this ⊢;omega
   have hyS:y<48:=hSm y (by
    have:y∈S.reverse:=(by rw [hsp];simp);simpa using this)
   obtain⟨b',o',hq',hb',hat'⟩:=oY.row.at (i:=A'.length) (by rw [hrl];omega);have hbo:b'=g/\o'=0:=by simpa using hq'.symm
   obtain⟨rfl,rfl⟩:=hbo;have c1:Y.cell? ⟨b',0+(A'.length+1)*1,none⟩=some (i64 u):=by
    have:=zc (hat' (A'.length+1) (by rw [hrl];omega)) (i:=0) (v:=i64 u) (by
     have e:((A'++[y])++u::(Bs++l.drop (i+1)))[A'.length+1]?=some u:=by
      rw [Jn (by simp),hA'l,UQ];rfl
     rw [gE (by rw [hrl];omega)] at e;rw [Uf e];rfl)
    exact this
   have c2:Y.cell? ⟨b',0+A'.length*1,none⟩=some (i64 y):=by
    have:=zc (hat' A'.length (by rw [hrl];omega)) (i:=0) (v:=i64 y) (by
     have e:((A'++[y])++u::(Bs++l.drop (i+1)))[A'.length]?=some y:=by
      rw [KO,Jn (UY _),UQ];rfl
     rw [gE (by rw [hrl];omega)] at e;rw [Uf e];rfl)
    exact this
   refine⟨A'.length+1,rfl,by omega,?_⟩;refine⟨_,c1,(A'.length:Nat),(ze (by omega)).trans (by omega),A'.length,rfl,by omega,?_⟩;refine⟨_,c2,?_⟩;have fxY:ExH Y b x q c:=(gY.block b (hlt fx) (by simpa using hbg)).trans fx;have fLY:Y.heap[L]?=some (.cells #[At0 b] 81 (0,0)):=(gY.block L (hlt fL) (by simpa using hLg)).trans fL;have hTY:Tz64M Y:=zak hT (gY.block _ (zaT hT) (by simpa using htg));refine cmo (zuc (hdr fxY) (hdr fLY) hco (h48 u hum) hyS (hTY.below hdY)) ?_;rintro e Z ⟨rfl,hbZ⟩;refine⟨hbZ,?_⟩;have hYZ:=hdY.trans hbZ;refine biE (fun hm=>?_) fun hm=>?_
   ·have hm:zjR (zbP (x.co.to y)) (zbP (x.co.to u))<0:=dT hm;have hk:zbR x y<zbR x u:=by
     unfold zjR at hm;by_cases h1:zbP (x.co.to y)<zbP (x.co.to u)
     ·exact h1
     ·rw [Gq h1] at hm
      split at hm <;> omega
    have oZ:=oY.below hYZ;have gZ:=jq gY (hYZ.mono gY.size);obtain⟨b2,o2,hq2,hb2,hat2⟩:=oZ.row.at (i:=A'.length) (by rw [hrl];omega);have hbo2:b2=b'/\o2=0:=(by simpa using hq2.symm);obtain⟨rfl,rfl⟩:=hbo2;have dZ:Bw Z Z.drew:=(Gd _ _).drew;have d1:=zc2 hYZ c1;have d2:=zc2 hYZ c2;refine DrawE.ord [15,17] [0,1,2,3,4,5,6,7,8,9,10,11,12,13,14,15,16,17] (by kernel_rfl) ⟨(A'.length:Nat),(ze (by omega)).trans (by omega),(A'.length:Nat),(ze (by omega)).trans (by omega),A'.length,rfl,by omega,?_⟩;refine⟨_,d2,A'.length+1,rfl,by omega,?_⟩;refine⟨_,d1,A'.length+1,rfl,by omega,?_⟩;refine zju (i:=A'.length+1) (v:=y) k3 rfl (oZ.below dZ) (by rw [hrl];omega) fun V oV gV=>⟨A'.length,rfl,by omega,?_⟩;refine zju (i:=A'.length) (v:=u) k3 rfl oV (by rw [QQ,hrl];omega) fun U oU gU=>?_;have e1:(((A'++[y])++u::(Bs++l.drop (i+1))).set (A'.length+1) y).set A'.length u=A'++u::((y::Bs)++l.drop (i+1)):=by
     rw [KO,JP _ _ (by omega),Jz,JP _ _ (by omega),UQ];rfl
    rw [e1] at oU;refine⟨(A'.length:Nat),(ze (by omega)).trans (by omega),(A',y::Bs),(cvE rfl rfl),⟨by rw [hsp];simp,fun z hz=>?_,oU,zd (zd (jq gZ (dZ.mono gZ.size)) gV) gU⟩,by show A'.length<_;omega⟩;rcases UD.1 hz with hz | hz
    ·rw [hz];exact hk
    ·exact hkB z hz
   ·have hm:¬ zjR (zbP (x.co.to y)) (zbP (x.co.to u))<0:=dF hm;have hk:¬ zbR x y<zbR x u:=fun h=>hm (by unfold zjR;rw [Gr h];decide);refine nxI (by omega) ⟨i+1,(cvE rfl rfl),fin hYZ ?_,zdc (by omega)⟩;rw [Km];exact Gq hk
  ·have h:¬ (0:Int)<(A.length:Int):=dF h;have hA0:A=[]:=List.length_eq_zero_iff.1 (by omega);subst hA0;exact brF (nxI (by omega) ⟨i+1,(cvE rfl rfl),fin hdY rfl,zdc (by omega)⟩)
 ·have hc:¬ (i:Int)<(l.length:Int):=dF hc;obtain rfl:i=l.length:=by omega
  rw [Qw,Qm,QK] at oX;exact⟨rfl,oX,gX⟩
end
theorem zuB:∃ G,TyEq PG 42 true 6 2 G/\∀ f:Nat->UInt8,G (seg 6 fun i=>u8 (f i)):=by
 refine⟨_,.array (m:=6) (by decide) Tryz.underlying42 (fun w=>Tryz.isAgg42 w) (jO (by kernel_rfl) (by kernel_rfl)).1 (by kernel_rfl) tU8,fun f i hi=>⟨((f i).toNat:Int),?_⟩⟩;unfold qQ;have h:=zce (n:=6) (fun i=>u8 (f i)) hi;rw [UZ];have hl:i<(seg 6 fun i=>u8 (f i)).length:=by rw [zG];exact hi
 rw [<- JF hl,List.take_succ_cons,Up];rw [gE hl] at h;rw [Uf h];rfl
theorem zp8 {f g:Nat->UInt8}:seg 6 (fun i=>u8 (f i))=seg 6 (fun i=>u8 (g i))↔((List.range 6).all fun l=>decide (f l=g l))=true:=by
 rw [Qj];constructor
 ·intro h i hi;have hi:=Uo.1 hi;have h3:=zce (n:=6) (fun i=>u8 (f i)) hi;rw [h,zce (n:=6) (fun i=>u8 (g i)) hi] at h3;have h4:=Uf h3;unfold u8 at h4;injection h4 with _ h5;exact Us (qr.1 h5).symm
 ·intro h;unfold seg;refine Kk fun i hi=>?_;rw [dT (h i hi)]
theorem zqx (x y:Operand) (f g:Nat->UInt8) (w:Wd):(do eqGuard .eql 42 x y (.agg (seg 6 fun i=>u8 (f i)).toArray) (.agg (seg 6 fun i=>u8 (g i)).toArray);binOp .eql 42 (.agg (seg 6 fun i=>u8 (f i)).toArray) (.agg (seg 6 fun i=>u8 (g i)).toArray)).run PG w = .ok (.bool ((List.range 6).all fun l=>decide (f l=g l))) w:=by
 obtain⟨G,h1,h2⟩:=zuB;have:=zmz h1 9998 rfl (by kernel_rfl) (zG 6 _) (zG 6 _) (h2 f) (h2 g) x y w;rw [this,zfa zp8,Bool.decide_eq_true]
section
variable {b c L g cap:Nat} {x:ExD} {q:OA} {w:Wd} {l:List Nat}
theorem zkj {B:Nat} (ho:OwnS zB 3 B w (some ⟨g,0,none⟩) cap l) (fx:ExH w b x q c) (fL:w.heap[L]?=some (.cells #[At0 b] 81 (0,0))) (hT:Tz64M w) (htg:1≠g) (hco:zH x.co.to) (h48:∀ a∈l,a<48) (hn:l.length<=19) (hn1:1<=l.length) :
  Calls PG 115 #[.slice (some ⟨g,0,none⟩) l.length cap,i64 l.length,.func (.func 84) #[] #[At0 L]] w fun e w'=>e = .returned (.tuple #[])/\OwnS zB 3 B w' (some ⟨g,0,none⟩) cap (zde (zbR x) l)/\w.grownBy w' (some g):=by
 refine zI 63 [.slice (some ⟨g,0,none⟩) l.length cap,i64 l.length,.func (.func 84) #[] #[At0 L]] Tryz.func115 ?_;refine⟨Unit,fun _=>⟨[(0,.slice (some ⟨g,0,none⟩) l.length cap),(1,i64 l.length),(2,.func (.func 84) #[] #[At0 L]),(6,i64 20),(7,i64 0),(8,i64 20)],[]⟩,fun _ X=>w=X,fun _=>0,(),(cvE rfl rfl),rfl,?_⟩;rintro _ _ rfl;refine brN (Uh (by omega)) (cmo (zhB ho fx fL hT htg hco h48 (by omega) hn1) ?_);rintro e X ⟨rfl,oX,gX⟩;refine⟨Unit,fun _=>⟨[(1,i64 l.length),(6,i64 20)],[]⟩,fun _ Y=>X=Y,fun _=>0,(),(cvE rfl rfl),rfl,?_⟩;rintro _ _ rfl;exact brN (Uh (by omega)) ⟨rfl,oX,gX⟩
theorem zmo {q:OA} {n m:Nat} (hm:m<=1000):Calls PG 159 #[.slice q n cap,i64 (m:Nat),i64 (m:Nat),.func (.func 84) #[] #[At0 L]] w fun e w'=>e = .returned (.tuple #[])/\w=w':=by
 refine zI 53 [.slice q n cap,i64 (m:Nat),i64 (m:Nat),.func (.func 84) #[] #[At0 L]] Tryz.func159 ?_;refine nxI (by omega) ⟨Unit,fun _=>⟨[(2,i64 (m:Nat)),(8,i64 ((m+1:Nat):Int))],[]⟩,fun _ X=>w=X,fun _=>0,(),(cvE rfl rfl),rfl,?_⟩;rintro _ _ rfl;exact brN (Uh (by omega)) ⟨rfl,rfl⟩
theorem zod {B:Nat} (ho:OwnS zB 3 B w (some ⟨g,0,none⟩) cap l) (fx:ExH w b x q c) (fL:w.heap[L]?=some (.cells #[At0 b] 81 (0,0))) (hT:Tz64M w) (htg:1≠g) (hco:zH x.co.to) (h48:∀ a∈l,a<48) (hn:l.length<=20) (hn1:1<=l.length) :
  Calls PG 115 #[.slice (some ⟨g,0,none⟩) l.length cap,i64 l.length,.func (.func 84) #[] #[At0 L]] w fun e w'=>e = .returned (.tuple #[])/\OwnS zB 3 B w' (some ⟨g,0,none⟩) cap (zde (zbR x) l)/\w.grownBy w' (some g):=by
 by_cases h19:l.length<=19
 ·exact zkj ho fx fL hT htg hco h48 h19 hn1
 have hn20:l.length=20:=by omega
 refine zI 63 [.slice (some ⟨g,0,none⟩) l.length cap,i64 l.length,.func (.func 84) #[] #[At0 L]] Tryz.func115 ?_;refine⟨Bool,fun k=>⟨[(0,.slice (some ⟨g,0,none⟩) l.length cap),(1,i64 l.length),(2,.func (.func 84) #[] #[At0 L]),(6,i64 20),(7,i64 (if k=true then (0:Nat) else l.length:Nat)),(8,i64 (if k=true then l.length else 40:Nat))],[]⟩,fun k X=>(k=true/\w=X)\/(k=false/\OwnS zB 3 B X (some ⟨g,0,none⟩) cap (zde (zbR x) l)/\w.grownBy X (some g)),fun k=>if k=true then 1 else 0,true,⟨.cons rfl (.cons rfl (.cons rfl (.cons rfl (.cons rfl (.cons (by rw [hn20];rfl) .nil))))),rfl⟩,.inl ⟨rfl,rfl⟩,?_⟩;rintro k X (⟨rfl,rfl⟩ | ⟨rfl,oX,gX⟩)
 ·refine brE (Us (by show ((l.length:Nat):Int)<=(l.length:Int);omega)) (cmo (zhB ho fx fL hT htg hco h48 hn hn1) ?_);rintro e X ⟨rfl,oX,gX⟩;refine⟨40,by rw [hn20];rfl,?_⟩;exact⟨false,(cvE rfl rfl),.inr ⟨rfl,oX,gX⟩,by decide⟩
 ·refine brN (Uh (by show ¬ ((40:Nat):Int)<=(l.length:Int);omega)) (cmo (zmo (m:=l.length) (by omega)) ?_);rintro e _ ⟨rfl,rfl⟩;refine⟨Unit,fun _=>⟨[(1,i64 l.length),(6,i64 20)],[]⟩,fun _ Y=>X=Y,fun _=>0,(),(cvE rfl rfl),rfl,?_⟩;rintro _ _ rfl;exact brN (Uh (by omega)) ⟨rfl,oX,gX⟩
theorem zij {B:Nat} (ho:OwnS zB 3 B w (some ⟨g,0,none⟩) cap l) (fx:ExH w b x q c) (fL:w.heap[L]?=some (.cells #[At0 b] 81 (0,0))) (hT:Tz64M w) (htg:1≠g) (hco:zH x.co.to) (h48:∀ a∈l,a<48) (hn:l.length<=20) (hn1:1<=l.length) :
  Calls PG 83 #[.slice (some ⟨g,0,none⟩) l.length cap,.func (.func 84) #[] #[At0 L]] w fun e w'=>e = .returned (.tuple #[])/\OwnS zB 3 B w' (some ⟨g,0,none⟩) cap (zde (zbR x) l)/\w.grownBy w' (some g):=by
 refine zI 9 [.slice (some ⟨g,0,none⟩) l.length cap,.func (.func 84) #[] #[At0 L]] Tryz.func83 ?_;refine cmo (zod ho fx fL hT htg hco h48 hn hn1) ?_;rintro e X ⟨rfl,h1,h2⟩;exact⟨rfl,h1,h2⟩
theorem zoM {l:List Nat} (h:0<l.length):l.headD 48=l[0]:=by
 cases l with
 | nil=>simp at h
 | cons a r=>rfl
theorem zpd {k a:Nat} (h:a∈zY x k):a<x.ev.length:=by
 unfold zY at h;exact Uo.1 (QT.1 h).1
theorem znc {k a:Nat} (h:a∈zN x k):a<x.ev.length:=zpd (zfl.1 h)
theorem ztW (q:OA) (c:Nat):((exC x q c).drop 99).take 49=zf x.co:=by
 obtain⟨A,T,hA,hE⟩:=zmy x q c;show ((exC { x with co:=x.co } q c).drop 99).take 49=_;rw [hE,<- hA,Ul,Jg (by rw [zg];decide),JH (by rw [zg];decide)]
theorem zsf (q:OA) (c:Nat):((exC x q c).drop 327).take 6=seg 6 fun i=>u8 (x.mem i):=by
 obtain⟨A,T,hA,hE⟩:=zmx x q c [];have:=hE x.mem;rw [QK] at this;show ((exC { x with mem:=x.mem } q c).drop 327).take 6=_;rw [this,<- hA,Ul,Jg (by rw [zG];decide),JH (by rw [zG];decide)]
abbrev zrb (X:Wd) (b:Nat) (f:Nat->UInt8):Prop:=X.heap[b]?=some (.cells (seg 6 fun i=>u8 (f i)).toArray 42 (0,0))
theorem zoW {locs:Nat} (fx:ExH w b x q c) (hv:ExW w x q) (hlo:locs<=6) (hne:∀ l,l<locs->zY x l≠[]) (hT:Tz64M w) :
  CB 45 #[At0 b,i64 locs] w (.bool (j6 x locs)):=by
 refine qj 87 [At0 b,i64 locs] (.c .p (.c .p (.c .p (.c .p .p)))) Tryz.func45 ?_;obtain⟨L,hL⟩:=nm (w.heap.size);have hbw:=hlt fx;have hn:=hv.n;have htl:=zaT hT;refine⟨Unit,fun _=>⟨[(1,i64 locs),(2,At0 L)],[]⟩,fun _ X=>X.heap[L]?=some (.cells #[At0 b] 81 (0,0))/\X.heap.size=L+1/\Bw w X,⟨(),⟨.cons rfl (.cons (by rw [hL];rfl) .nil),rfl⟩,by rw [hL];exact zu w _,by rw [hL];exact wz _ _,(zba w _)⟩,?_⟩;rintro _ X ⟨fL,sX,hbX⟩;refine⟨Unit,fun _=>⟨[(1,i64 locs),(2,At0 L),(5,At0 (L+1))],[]⟩,fun _ Y=>zS Y (L+1) ⟨x.ev.length,fun _=>0⟩/\Y.heap.size=L+2/\Bw X Y,?_,?_⟩
 ·refine⟨_,zc (za fL) (i:=0) rfl,_,zc (za (zb hbX fx)) (i:=0) rfl,zf ⟨x.ev.length,fun _=>0⟩,by kernel_rfl,?_⟩;refine zo (X:=X) (v := .agg (zf ⟨x.ev.length,fun _=>0⟩).toArray) k39 (zg _) (by kernel_rfl) (zC _) fun Z hbZ fZ sZ=>?_;rw [sX] at fZ sZ;exact⟨(),⟨.cons rfl (.cons rfl (.cons (by rw [<- sX];rfl) .nil)),rfl⟩,fZ,sZ,hbZ⟩
 rintro _ Y ⟨fT,sY,hbY⟩;refine⟨Unit,fun _=>⟨[(1,i64 locs),(2,At0 L),(5,At0 (L+1)),(6,At0 (L+2))],[]⟩,fun _ Z=>zrb Z (L+2) (fun _=>0)/\zS Z (L+1) ⟨x.ev.length,fun _=>0⟩/\Z.heap[L]?=some (.cells #[At0 b] 81 (0,0))/\Z.heap.size=L+3/\Bw w Z,?_,?_⟩
 ·exact⟨(),⟨.cons rfl (.cons rfl (.cons rfl (.cons (by rw [<- sY];rfl) .nil))),rfl⟩,by rw [<- sY];exact zu Y _,qB _ fT,qB _ (zb hbY fL),by rw [wz,sY],((zst hbX hbY)).alloc (by have:=hbX.size;have:=hbY.size;omega) _⟩
 clear fL sX hbX fT sY hbY;clear X Y;rintro _ X ⟨fM,fT,fL,sX,hbX⟩;obtain⟨P0,hP0⟩:∃ P0:RelD×(Nat->UInt8),P0=(⟨x.ev.length,fun _=>0⟩,fun _=>0):=⟨_,rfl⟩;have hco:j6 x locs=match ze8 x locs 0 P0 with
  | none=>false
  | some p=>jl p.1 x.co&&(List.range 6).all fun l=>decide (p.2 l=x.mem l):=by rw [hP0];rfl
 refine⟨RelD×(Nat->UInt8),fun P=>⟨[(2,At0 L),(5,At0 (L+1)),(6,At0 (L+2))],[]⟩,fun P Z=>ze8 x locs 0 P0=some P/\zrb Z (L+2) P.2/\zS Z (L+1) P.1/\Z.heap[L]?=some (.cells #[At0 b] 81 (0,0))/\Bw w Z,?_,?_⟩
 ·refine⟨Nat×(RelD×(Nat->UInt8)),fun s=>⟨[(2,At0 L),(5,At0 (L+1)),(6,At0 (L+2)),(17,i64 locs),(18,i64 (s.1:Nat))],[]⟩,fun s Z=>s.1<=locs/\ze8 x (locs-s.1) s.1 s.2=ze8 x locs 0 P0/\zH s.2.1.to/\zrb Z (L+2) s.2.2/\zS Z (L+1) s.2.1/\Z.heap[L]?=some (.cells #[At0 b] 81 (0,0))/\Bw w Z/\L+3<=Z.heap.size,fun s=>locs-s.1,(0,P0),
   (cvE rfl rfl),⟨Gb _,rfl,by rw [hP0];exact fun i _=>(by show 0<_;decide),by rw [hP0];exact fM,by rw [hP0];exact fT,fL,hbX,by omega⟩,?_⟩
  clear fM fT fL sX hbX;rintro⟨l,P⟩ Z ⟨hl,hgo,hPw,fM,fT,fL,hbZ,sZ⟩;dsimp only at hl hgo hPw fM fT sZ ⊢;refine biE (fun hc=>?_) fun hc=>?_
  ·have hc:(l:Int)<(locs:Int):=dT hc;have hll:l<locs:=by omega
   have hstep:ze8 x (locs-l) l P=if (zN x l).headD 48=l then ze8 x (locs-(l+1)) (l+1) (j7 (zN x l) P.1,upd P.2 l (zbQ x.ev (zN x l))) else none:=by
    rw [show locs-l=(locs-(l+1))+1 by omega];rfl
   refine⟨_,zc (za fL) (i:=0) rfl,_,zc (za (zb hbZ fx)) (i:=0) rfl,?_⟩;obtain⟨pr,hpr⟩:∃ pr:Nat->Bool,pr=fun i=>decide ((evA x i).k=2)&&decide ((evA x i).l.toNat=l):=⟨_,rfl⟩;refine⟨Nat×OA×Nat,fun s=>⟨[(2,At0 L),(5,At0 (L+1)),(6,At0 (L+2)),(7,i64 (l:Nat)),(8,.slice s.2.1 ((List.range s.1).filter pr).length s.2.2),(17,i64 locs),(18,i64 (l:Nat)),(24,.slice q x.ev.length c),(25,i64 x.ev.length),(26,i64 (s.1:Nat))],[]⟩,fun s V=>s.1<=x.ev.length/\OwnS zB 3 Z.heap.size V s.2.1 s.2.2 ((List.range s.1).filter pr)/\Bw Z V,fun s=>x.ev.length-s.1,(0,none,0),
    (cvE rfl rfl),⟨Gb _,OwnS.nil,Gd _ _⟩,?_⟩
   rintro⟨k,ps,cs⟩ V ⟨hk,oV,hbV⟩;dsimp only at hk oV ⊢;have hVs:=hbV.size;refine biE (fun hc=>?_) fun hc=>?_
   ·have hc:(k:Int)<(x.ev.length:Int):=dT hc;have hkl:k<x.ev.length:=(by omega);have hbwV:=zst hbZ hbV;obtain⟨bq,oq,hqe,hb,hat⟩:=zcl (hv.ev.below hbwV) hkl;rw [zep] at hat;have hfl:(List.range (k+1)).filter pr=(List.range k).filter pr++if pr k=true then [k] else []:=by
     rw [QW,Kv,Qn,List.filter_nil]
    have hprk:pr k=(decide ((evA x k).k=2)&&decide ((evA x k).l.toNat=l)):=(by rw [hpr]);have hll2:((List.range k).filter pr).length<=k:=by
     have:=JM pr (List.range k);rw [KV] at this;exact this
    obtain⟨e,he⟩:=nm (evA x k);rw [<- he] at hat hprk;have eq0:some (Value.slice q x.ev.length c)=some (Value.slice (some ⟨bq,oq,none⟩) x.ev.length c):=(by rw [hqe]);subst hqe;refine⟨k,rfl,hkl,evE.enc e,rfl,hat,hb,zo (X:=V) (v := .agg (evE.enc e).toArray) k49 rfl rfl (Qj.2 fun u hu=>evE.one e u hu) fun U hbU fU sU=>?_⟩;have fU:U.heap[V.heap.size]?=some (.cells (evE.enc e).toArray 49 (0,0)):=fU;have oU:=oV.below hbU;have hbU2:=hbV.trans (hbU.mono hVs);have hUs:=hbU2.size;have skip:pr k=false->(k+1<=x.ev.length/\OwnS zB 3 Z.heap.size U ps cs ((List.range (k+1)).filter pr)/\Bw Z U):=fun h=>⟨hkl,by rw [hfl,h];simpa using oU,hbU2⟩;have skipE:pr k=false->((List.range (k+1)).filter pr).length=((List.range k).filter pr).length:=fun h=>by rw [hfl,h];simp
    refine⟨u8 e.k,zc (za fU) (i:=1) rfl,biE (fun h1=>?_) fun h1=>?_⟩
    ·have h1:e.k=2:=qr.1 (dT h1);refine⟨u8 e.l,zc (za fU) (i:=2) rfl,(e.l.toNat:Int),qW _,biE (fun h2=>?_) fun h2=>?_⟩
     ·have h2:(e.l.toNat:Int)=(l:Int):=dT h2;have hp1:pr k=true:=(by rw [hprk,Us h1,Us (by omega:e.l.toNat=l)];rfl);rw [Gr hp1] at hfl;refine⟨⟨by decide,by decide,rfl⟩,zB.enc k,rfl,?_⟩;have hb2:Bw U (U.alloc (.cells (zB.enc k).toArray 3)):=zba _ _;have sb2:=hb2.size;unfold zdY zax;show SatR _ _;refine zo7 (oU.below hb2) (qS zB k) (by omega) (by omega) fun p' c' S oS gS hat2=>?_;rw [zaH] at gS;rw [<- hfl] at oS ⊢;exact nxI (by omega) ⟨(k+1,p',c'),(cvE rfl rfl),⟨hkl,oS,hbU2.trans ((hb2.mono hUs).trans (jd (oU.below hb2) (by omega) (UY _) gS))⟩,zdc (by omega)⟩
     ·have h2:¬ (e.l.toNat:Int)=(l:Int):=dF h2;have hp0:pr k=false:=(by rw [hprk,Uh (by omega:¬ e.l.toNat=l),Ui]);exact nxI (by omega) ⟨(k+1,ps,cs),⟨.cons rfl (.cons rfl (.cons rfl (.cons rfl (.cons (by show _=some (Value.slice ps ((List.range (k+1)).filter pr).length cs);rw [skipE hp0];rfl) (.cons rfl (.cons rfl (.cons rfl (.cons rfl (.cons rfl .nil))))))))),rfl⟩,skip hp0,zdc (by omega)⟩
    ·have h1:¬ e.k=2:=fun e2=>(dF h1) (by rw [e2];rfl);have hp0:pr k=false:=(by rw [hprk,Uh h1];rfl);exact brF (nxI (by omega) ⟨(k+1,ps,cs),⟨.cons rfl (.cons rfl (.cons rfl (.cons rfl (.cons (by show _=some (Value.slice ps ((List.range (k+1)).filter pr).length cs);rw [skipE hp0];rfl) (.cons rfl (.cons rfl (.cons rfl (.cons rfl (.cons rfl .nil))))))))),rfl⟩,skip hp0,zdc (by omega)⟩)
   have hc:¬ (k:Int)<(x.ev.length:Int):=dF hc;obtain rfl:k=x.ev.length:=by omega
   have hwr:(List.range x.ev.length).filter pr=zY x l:=by rw [hpr];rfl
   rw [hwr] at oV ⊢;have hwn:=hne l hll;have hw1:1<=(zY x l).length:=List.length_pos_iff.2 hwn;have hw19:(zY x l).length<=20:=hv.w20 l;have hps:∃ g,ps=some ⟨g,0,none⟩:=by
    rcases oV.inv with ⟨_,_,h⟩ | ⟨g,cur,h,_⟩
    ·exact (hwn h).elim
    ·exact⟨g,h⟩
   obtain⟨g,rfl⟩:=hps;have hg:=(zy oV rfl).1;have hg:Z.heap.size<=g:=hg;have hbwV:=zst hbZ hbV;have hZw:=hbZ.size;refine cmo (zij oV (zb hbwV fx) (zb hbV fL) (hT.below hbwV) (by omega) hv.co (fun a ha=>by have:=zpd ha;omega) hw19 hw1) ?_;rintro e U ⟨rfl,oU,gU⟩;have oU:OwnS zB 3 Z.heap.size U (some ⟨g,0,none⟩) cs (zN x l):=oU;have hrl:(zN x l).length=(zY x l).length:=zof _;have hbU:Bw Z U:=hbV.trans (zk gU hVs hg);have hbwU:=hbZ.trans (hbU.mono hZw);have hU0:0<(zN x l).length:=by omega
   obtain⟨bq,oq,hqe,hbq,hatq⟩:=oU.row.at hU0;have hbo:bq=g/\oq=0:=by simpa using hqe.symm
   obtain⟨rfl,rfl⟩:=hbo;rw [<- hrl];have hh:(zN x l).headD 48=(zN x l)[0]:=zoM hU0;refine⟨0,rfl,hU0,i64 (zN x l)[0],by have:=zc (hatq 0 hU0) (i:=0) (v:=i64 (zN x l)[0]) rfl;exact this,biE (fun h=>?_) fun h=>?_⟩
   ·have h:(!decide (((zN x l)[0]:Int)=(l:Int)))=true:=h;have h:¬ ((zN x l)[0]:Int)=(l:Int):=(by simpa using h);rw [hstep,Gq (by rw [hh];omega)] at hgo;refine⟨rb ?_,hbwU⟩;rw [hco,<- hgo]
   have h:(!decide (((zN x l)[0]:Int)=(l:Int)))=false:=h;have h:((zN x l)[0]:Int)=(l:Int):=by simpa using h
   rw [hstep,Gr (by rw [hh];omega)] at hgo;have fTU:=zb hbU fT;have hRT:RelAt U (L+1) 0 39 [] [] P.1:=⟨rfl,by simpa using fTU⟩;have hrk48:∀ a∈zN x l,a<48:=fun a ha=>by have:=znc ha;omega
   have hLZ:=hlt fT;have hL2Z:=hlt fM;refine cmo (zqb hRT hPw oU.row (fun a ha=>by cases ha;exact⟨hbq,by show bq≠L+1;omega⟩) (by omega) hrk48) ?_;rintro e S ⟨rfl,hRS,gS⟩;have fTS:zS S (L+1) (j7 (zN x l) P.1):=by simpa using hRS.cells
   have hbS:Bw w S:=hbwU.trans (zk gS hbwU.size (by omega));have fMS:=(gS.block (L+2) (hlt (zb hbU fM)) (by simp)).trans (zb hbU fM);have fLS:=(gS.block L (hlt (zb hbU fL)) (by simp)).trans (zb hbU fL);have oS:=qq oU fTU (by decide) gS;obtain⟨j,hj⟩:∃ j,j+1=(zN x l).length:=⟨(zN x l).length-1,by omega⟩;have hjl:j<(zN x l).length:=by omega
   obtain⟨b6,o6,hp6,hl6,hat6⟩:=oS.row.at hjl;have hbo6:b6=bq/\o6=0:=by simpa using hp6.symm
   obtain⟨rfl,rfl⟩:=hbo6;obtain⟨t,ht⟩:∃ t,(zN x l)[j]=t:=⟨_,rfl⟩;have htev:t<x.ev.length:=znc (by rw [<- ht];exact gM hjl);have hlast:(zN x l).getLastD 0=t:=by
    rw [List.getLastD_eq_getLast?,List.getLast?_eq_getElem?,show (zN x l).length-1=j by omega,gE hjl,ht];rfl
   obtain⟨b7,o7,hp7,hl7,hat7⟩:=zcl (hv.ev.below hbS) htev;rw [zep] at hat7;have hlV:zbQ x.ev (zN x l)=(evA x t).v:=by
    show (x.ev.getD ((zN x l).getLastD 0) ev0).v=_;rw [hlast];rfl
   have dS:Bw S S.drew:=(Gd _ _).drew;refine DrawE.ord [15] [0,1,2,3,4,5,6,7,8,9,10,11,12,13,14,15] (by kernel_rfl) ⟨_,zc (za (hdr fLS)) (i:=0) rfl,_,zc (za (hdr (zb hbS fx))) (i:=0) rfl,(j:Nat),(ze (by omega)).trans (by omega),j,rfl,hjl,i64 t,by have:=zc (zq dS (hat6 j hjl)) (i:=0) (v:=i64 t) (by rw [ht];rfl);exact this,?_⟩;rw [hp7];refine⟨t,rfl,htev,u8 (evA x t).v,by have:=zc (zq dS hat7) (i:=3) (v:=u8 (evA x t).v) rfl;exact this,l,rfl,by omega,?_⟩;refine zn k5 (hdr fMS) (o:=0+l*1) (v:=u8 (evA x t).v) rfl rfl (by rw [zG];omega) rfl fun T fT2 gT sT=>?_;have gT2:S.grownBy T (some (L+2)):=zd (zi dS) gT;have e8:=zjg (n:=6) (fun i=>u8 (P.2 i)) (fun i=>u8 (upd P.2 l (evA x t).v i)) (i:=l) (by omega) rfl (fun j hj=>by rw [qk _ _ hj]);rw [zP] at e8;rw [UZ,US,e8] at fT2;exact nxI (by omega) ⟨(l+1,(j7 (zN x l) P.1,upd P.2 l (evA x t).v)),(cvE rfl rfl),⟨hll,by rw [<- hlV];exact hgo,ziM hPw hrk48,fT2,(gT2.block (L+1) (hlt fTS) (by simp)).trans fTS,(gT2.block L (hlt fLS) (by simp)).trans fLS,hbS.trans (zk gT2 hbS.size (by omega)),by have:=gT2.size;have:=gS.size;have:=hbU.size;omega⟩,zdc (by omega)⟩
  ·have hc:¬ (l:Int)<(locs:Int):=dF hc;obtain rfl:l=locs:=by omega
   rw [UQ] at hgo;exact⟨P,(cvE rfl rfl),hgo.symm,fM,fT,fL,hbZ⟩
 rintro P Z ⟨hgo,fM,fT,fL,hbZ⟩;have hco2:j6 x locs=(jl P.1 x.co&&(List.range 6).all fun l=>decide (P.2 l=x.mem l)):=by rw [hco,hgo]
 refine DrawE.ord [] [0,1,2,3,4,5,6,7,8,9,10,11,12,13,14,15] (by kernel_rfl) ?_;have dZ:Bw Z Z.drew:=(Gd _ _).drew;refine⟨zf P.1,zg _,za (hdr fT),hlt (hdr fT),_,zc (za (hdr fL)) (i:=0) rfl,?_⟩;have fxZ:=hdr (zb hbZ fx);refine⟨zf x.co,zg _,by have h:=zT (n:=99) (m:=49) (za fxZ);rw [show (exC x q c).toArray.toList=exC x q c from rfl,ztW] at h;exact h,hlt fxZ,_,fun w=>znL _ _ P.1 x.co w,?_⟩;have fin:Bw w Z.drew:=zst hbZ dZ;refine biE (fun h=>?_) fun h=>?_
 ·have h:jl P.1 x.co=true:=h;exact⟨seg 6 (fun i=>u8 (P.2 i)),zG _ _,za (hdr fM),hlt (hdr fM),_,zc (za (hdr fL)) (i:=0) rfl,seg 6 (fun i=>u8 (x.mem i)),zG _ _,by have h:=zT (n:=327) (m:=6) (za fxZ);rw [show (exC x q c).toArray.toList=exC x q c from rfl,zsf] at h;exact h,hlt fxZ,_,fun w=>zqx _ _ P.2 x.mem w,rb (by rw [hco2,h,Uy]),fin⟩
 ·have h:jl P.1 x.co=false:=h;exact⟨rb (by rw [hco2,h,Uj]),fin⟩
end
section
variable {b c:Nat} {x:ExD} {q:OA} {w:Wd}
theorem zjk {X:Wd} {o:Nat} {A T:List Value} {r:RelD} (fx:ExH X b x q c) (hA:A.length=o) (hE:exC x q c=A++(zf r++T)) {i:Nat} (hi:i<48):X.cell? ⟨b,o+1+i*1,none⟩=some (s64 (r.to i)):=by
 have hR:RelAt X b o 46 A T r:=⟨hA,by rw [<- hE];exact fx⟩;exact hR.cell hi
theorem ztz {X:Wd} (fx:ExH X b x q c) {i:Nat} (hi:i<48):X.cell? ⟨b,0+1+1+i*1,none⟩=some (s64 (x.po.to i)):=by
 obtain⟨A,T,hA,hE⟩:=znE x q c [];exact zjk fx hA (by rw [<- hE,QK]) hi
theorem zt0 {X:Wd} (fx:ExH X b x q c) {i:Nat} (hi:i<48):X.cell? ⟨b,0+148+1+i*1,none⟩=some (s64 (x.dt.to i)):=by
 obtain⟨A,T,hA,hE⟩:=znF x q c [];exact zjk fx hA (by rw [<- hE,QK]) hi
theorem zua {X:Wd} (fx:ExH X b x q c) {i:Nat} (hi:i<48):X.cell? ⟨b,0+197+1+i*1,none⟩=some (s64 (x.ct.to i)):=by
 obtain⟨A,T,hA,hE⟩:=znG x q c [];exact zjk fx hA (by rw [<- hE,QK]) hi
theorem ztr {X:Wd} (fx:ExH X b x q c) {i:Nat} (hi:i<48):X.cell? ⟨b,0+246+1+i*1,none⟩=some (s64 (x.rm.to i)):=by
 obtain⟨A,T,hA,hE⟩:=znC x q c [];exact zjk fx hA (by rw [<- hE,QK]) hi
theorem n64 {a b:Nat} (h:(!decide ((a:Int)=(b:Int)))=true):¬ a=b:=fun e=>by
 rw [e] at h;simp at h
theorem y64 {a b:Nat} (h:(!decide ((a:Int)=(b:Int)))=false):a=b:=by
 have h:(a:Int)=(b:Int):=by simpa using h
 exact Uz h
theorem n8 {a d:UInt8} (h:(!decide ((a.toNat:Int)=(d.toNat:Int)))=true):¬ a=d:=fun e2=>by
 rw [e2] at h;simp at h
theorem y8 {a d:UInt8} (h:(!decide ((a.toNat:Int)=(d.toNat:Int)))=false):a=d:=qr.1 (by simpa using h)
def wrG (x:ExD) (k:Nat):Nat:=(List.range k).foldl (fun s i=>if (evA x i).k=2 then s|||2^i else s) 0
theorem zj8 (x:ExD) (k:Nat):wrG x (k+1)=if (evA x k).k=2 then wrG x k|||2^k else wrG x k:=by
 unfold wrG;rw [QW,KT];rfl
theorem zi8 (x:ExD):∀ k,k<=64->wrG x k<2^64
 | 0,_=>by show 0<_;decide
 | k+1,h=>by
  rw [zj8]
  split
  ·exact KY (zi8 x k (by omega)) (z3 (by omega))
  ·exact zi8 x k (by omega)
theorem zmC (fx:ExH w b x q c) (hv:ExW w x q) (hrn:x.rm.n=x.ev.length) (hok:okR x.rm=true) (hT:Tz64M w) :
  CB 46 #[At0 b] w (.bool (zaB x)):=by
 refine qj 130 [At0 b] (.s .p (.s .p (.c .p .p))) Tryz.func46 ?_;have hn:=hv.n;obtain⟨W,hW⟩:=nm (zaS x);have hWG:W=wrG x x.ev.length:=by rw [hW];rfl
 have hW64:W<2^64:=by rw [hWG];exact zi8 x _ (by omega)
 refine⟨Unit,fun _=>⟨[(0,At0 b),(3,s64 W),(4,s64 0)],[]⟩,fun _ X=>Bw w X,?_,?_⟩
 ·refine⟨_,zc (za fx) (i:=0) rfl,?_⟩;refine⟨Nat,fun k=>⟨[(0,At0 b),(3,s64 (wrG x k)),(4,s64 0),(17,.slice q x.ev.length c),(18,i64 x.ev.length),(19,i64 (k:Nat))],[]⟩,fun k X=>k<=x.ev.length/\Bw w X,fun k=>x.ev.length-k,0,
   (cvE rfl rfl),⟨Gb _,Gd _ _⟩,?_⟩
  rintro k X ⟨hk,hbX⟩;dsimp only;refine biE (fun hc=>?_) fun hc=>?_
  ·have hc:(k:Int)<(x.ev.length:Int):=dT hc;have hkl:k<x.ev.length:=by omega
   obtain⟨bq,oq,hqe,hb,hat⟩:=zcl (hv.ev.below hbX) hkl;rw [zep] at hat;obtain⟨e,he⟩:=nm (evA x k);have hs:=zj8 x k;rw [<- he] at hat hs;subst hqe;refine⟨k,rfl,hkl,evE.enc e,rfl,hat,hb,zo (X:=X) (v := .agg (evE.enc e).toArray) k49 rfl rfl (Qj.2 fun u hu=>evE.one e u hu) fun Y hbY fY sY=>?_⟩;have fY:Y.heap[X.heap.size]?=some (.cells (evE.enc e).toArray 49 (0,0)):=fY;have hbY2:=zst hbX hbY;refine⟨u8 e.k,zc (za fY) (i:=1) rfl,biE (fun h=>?_) fun h=>?_⟩
   ·have h:e.k=2:=qr.1 (dT h);rw [Gr h] at hs;exact⟨by omega,((2^k:Nat):Int),jZ (e:=k) (by omega),((wrG x k|||2^k:Nat):Int),zaf (zi8 x k (by omega)) (z3 (by omega)),nxI (by omega) ⟨k+1,⟨.cons rfl (.cons (by show _=some (s64 (wrG x (k+1)));rw [hs];rfl) (.cons rfl (.cons rfl (.cons rfl (.cons rfl .nil))))),rfl⟩,⟨hkl,hbY2⟩,zdc (by omega)⟩⟩
   ·have h:¬ e.k=2:=fun e2=>(dF h) (by rw [e2];rfl);rw [Gq h] at hs;exact nxI (by omega) ⟨k+1,⟨.cons rfl (.cons (by show _=some (s64 (wrG x (k+1)));rw [hs];rfl) (.cons rfl (.cons rfl (.cons rfl (.cons rfl .nil))))),rfl⟩,⟨hkl,hbY2⟩,zdc (by omega)⟩
  ·have hc:¬ (k:Int)<(x.ev.length:Int):=dF hc;obtain rfl:k=x.ev.length:=by omega
   exact⟨(),⟨.cons rfl (.cons (by show _=some (s64 W);rw [hWG];rfl) (.cons rfl .nil)),rfl⟩,hbX⟩
 rintro _ X hbX;refine⟨_,zc (za (zb hbX fx)) (i:=0) rfl,?_⟩;have hdep:zaB x=zcA x W 0 x.ev 0:=by rw [hW];rfl
 refine⟨Nat×Nat,fun s=>⟨[(0,At0 b),(3,s64 W),(4,s64 s.2),(35,.slice q x.ev.length c),(36,i64 x.ev.length),(37,i64 (s.1:Nat))],[]⟩,fun s X=>s.1<=x.ev.length/\zcA x W s.1 (x.ev.drop s.1) s.2=zaB x/\s.2<2^64/\Bw w X,fun s=>x.ev.length-s.1,(0,0),
  (cvE rfl rfl),⟨Gb _,hdep.symm,by decide,hbX⟩,?_⟩
 clear hbX;rintro⟨k,h⟩ X ⟨hk,hgo,hh,hbX⟩;dsimp only at hk hgo hh ⊢;refine biE (fun hc=>?_) fun hc=>?_
 ·have hc:(k:Int)<(x.ev.length:Int):=dT hc;have hkl:k<x.ev.length:=by omega
  have hk48:k<48:=by omega
  obtain⟨bq,oq,hqe,hb,hat⟩:=zcl (hv.ev.below hbX) hkl;rw [zep] at hat;obtain⟨e,he⟩:=nm (evA x k);rw [<- he] at hat;have hdrp:x.ev.drop k=e::x.ev.drop (k+1):=by
   rw [<- JF hkl,he];unfold evA;rw [gDe,gE hkl];rfl
  rw [hdrp] at hgo;unfold zcA at hgo;obtain⟨d,hd⟩:=nm (x.dt.to k);obtain⟨t,ht⟩:=nm (x.ct.to k);obtain⟨r,hr⟩:=nm (x.rm.to k);obtain⟨po,hpo⟩:=nm (x.po.to k);dsimp only at hgo;rw [<- hd,<- ht,<- hr,<- hpo] at hgo;have d64:d<2^64:=by rw [hd];exact hv.dt k hk48
  have t64:t<2^64:=by rw [ht];exact hv.ct k hk48
  have r64:r<2^64:=by rw [hr];exact hv.rm k hk48
  have p64:po<2^64:=by rw [hpo];exact hv.po k hk48
  have dt64:=KY d64 t64;have dtr64:=KY dt64 r64;have dr64:=KY d64 r64;subst hqe;refine⟨k,rfl,hkl,evE.enc e,rfl,hat,hb,zo (X:=X) (v := .agg (evE.enc e).toArray) k49 rfl rfl (Qj.2 fun u hu=>evE.one e u hu) fun Y hbY fY sY=>?_⟩;have fY:Y.heap[X.heap.size]?=some (.cells (evE.enc e).toArray 49 (0,0)):=fY;have hbY2:=zst hbX hbY;have dY:Bw Y Y.drew:=(Gd _ _).drew;have fxY:=hdr (zb hbY2 fx);have fYd:=hdr fY;have hbD:=zst hbY2 dY;have no:∀ {Z:Wd},Bw w Z->zaB x=false->(Ending.returned (.bool false)=Ending.returned (.bool (zaB x))/\Bw w Z):=fun {Z} hb h=>⟨rb h.symm,hb⟩;refine DrawE.ord [] [0,1,2,3,4,5,6,7,8,9,10,11,12,13,14,15,16,17,18,19,20,21,22,23] (by kernel_rfl) ⟨k,rfl,hk48,s64 d,by rw [hd];exact zt0 fxY hk48,?_⟩;refine⟨k,rfl,hk48,s64 t,by rw [ht];exact zua fxY hk48,?_⟩;refine⟨k,rfl,hk48,s64 r,by rw [hr];exact ztr fxY hk48,?_⟩;refine⟨_,zaf d64 t64,_,zaf dt64 r64,biE (fun h1=>?_) fun h1=>?_⟩
  ·have h1:d|||t|||r=0:=Uz (dT h1);rw [Gr h1] at hgo;exact nxI (by omega) ⟨(k+1,h),(cvE rfl rfl),⟨hkl,hgo,hh,hbD⟩,zdc (by omega)⟩
  have h1:¬ d|||t|||r=0:=fun e2=>(dF h1) (by rw [e2];rfl);rw [Gq h1] at hgo;refine⟨u8 e.k,zc (za fYd) (i:=1) rfl,biE (fun h2=>?_) fun h2=>?_⟩
  ·have h2:¬ e.k=1:=n8 (d:=1) h2;rw [Gq fun h=>h2 h.1] at hgo;exact brT (brT (no hbD hgo.symm))
  have h2:e.k=1:=y8 (d:=1) h2;refine⟨_,zaf d64 r64,_,zco dr64 hW64,biE (fun h3=>?_) fun h3=>?_⟩
  ·have h3:¬ qG (d|||r) W=0:=n64 (b:=0) h3;rw [Gq fun h=>h3 h.2.1] at hgo;exact brT (no hbD hgo.symm)
  have h3:qG (d|||r) W=0:=y64 (b:=0) h3;refine⟨_,zaf d64 t64,_,zaf dt64 r64,k,rfl,hk48,s64 po,by rw [hpo];exact ztz fxY hk48,?_⟩;refine⟨_,zco dtr64 p64,biE (fun h4=>?_) fun h4=>?_⟩
  ·have h4:¬ qG (d|||t|||r) po=0:=n64 (b:=0) h4;rw [Gq fun h=>h4 h.2.2] at hgo;exact no hbD hgo.symm
  have h4:qG (d|||t|||r) po=0:=y64 (b:=0) h4;rw [Gr ⟨h2,h3,h4⟩] at hgo;refine cmo (za2 r64 (hT.below hbD)) ?_;rintro e2 Z ⟨rfl,hbZ⟩;have hbZ2:=zst hbD hbZ;by_cases hr0:r=0
  ·have e1:(els r).isEmpty=true:=by rw [hr0];rfl
   rw [e1];rw [Gr hr0] at hgo;exact brF (nxI (by omega) ⟨(k+1,h),(cvE rfl rfl),⟨hkl,hgo,hh,hbZ2⟩,zdc (by omega)⟩)
  rw [Gq hr0] at hgo;obtain⟨hhd,hem⟩:=zbT hr0 r64;rw [hhd,hem];have hmem:=zgC hr0 r64;have hbit:r.testBit (ctz r)=true:=(qJ.1 hmem).2;have hvl:ctz r<x.ev.length:=by
   have:=(zjx hok hv.rm hk48 (by rw [<- hr];exact hbit)).1;rw [hrn] at this;omega
  obtain⟨v,hvd⟩:=nm (ctz r);rw [<- hvd] at hvl hgo ⊢;refine brT ?_;have fZ:=zb hbZ fYd;have dZ:Bw Z Z.drew:=(Gd _ _).drew;have hbZ3:=zst hbZ2 dZ;refine DrawE.ord [] [0,1,2,3,4,5,6,7,8,9,10,11,12,13,14,15,16,17,18,19,20,21,22,23] (by kernel_rfl) ⟨by omega,((2^v:Nat):Int),jZ (e:=v) (by omega),biE (fun h5=>?_) fun h5=>?_⟩
  ·have h5:¬ r=2^v:=n64 h5;rw [Gq fun h=>h5 h.1] at hgo;exact brT (brT (no hbZ3 hgo.symm))
  have h5:r=2^v:=y64 h5;refine⟨by omega,_,zey (a:=h) (k:=v) (by omega),_,jI (a:=h/2^v) (b:=1) (KE (Nat.div_le_self _ _) hh) (by decide),?_⟩;rw [zjV]
  cases hb5:h.testBit v with
  | true =>
   rw [Gq fun h=>(by rw [hb5] at h;cases h.2.1)] at hgo;exact brT (brT (no hbZ3 hgo.symm))
  | false =>
   refine brF ?_;obtain⟨bq2,oq2,hqe2,hb2,hat2⟩:=zcl (hv.ev.below hbZ3) hvl;rw [zep] at hat2;obtain⟨f,hf⟩:=nm (evA x v);rw [<- hf] at hat2 hgo;refine⟨_,zc (za (zb hbZ3 fx)) (i:=0) rfl,v,rfl,hvl,?_⟩;simp only [KZ,Uu,Gk] at hqe2;rw [<- hqe2.1,<- hqe2.2] at hat2;refine⟨u8 f.l,by have:=zc hat2 (i:=2) (v:=u8 f.l) rfl;exact this,u8 e.l,zc (za (hdr fZ)) (i:=2) rfl,biE (fun h6=>?_) fun h6=>?_⟩
   ·have h6:¬ f.l=e.l:=n8 h6;rw [Gq fun h=>h6 h.2.2] at hgo;exact no hbZ3 hgo.symm
   have h6:f.l=e.l:=y8 h6;rw [Gr ⟨h5,hb5,h6⟩] at hgo;exact⟨_,zaf hh r64,nxI (by omega) ⟨(k+1,h|||r),(cvE rfl rfl),⟨hkl,hgo,KY hh r64,hbZ3⟩,zdc (by omega)⟩⟩
 ·have hc:¬ (k:Int)<(x.ev.length:Int):=dF hc;obtain rfl:k=x.ev.length:=by omega
  rw [Qm] at hgo;exact⟨rb hgo,hbX⟩
end
theorem zlh {locs:Nat}:∀ (ev:List Ev) (i:Nat) (t:Int) (n:Nat),zbW locs i ev t n=true->∀ j,i+j<locs->j<ev.length->∃ v,ev.getD j ev0=⟨-1,2,UInt8.ofNat (i+j),v,0,0,0⟩
 | [],_,_,_,_,_,_,h=>by simp at h
 | e::ev,i,t,n,h,j,hj,hl=>by
  unfold zbW at h;rw [Gr (by omega:i<locs)] at h;by_cases he:e=⟨-1,2,UInt8.ofNat i,e.v,0,0,0⟩
  ·rw [Gr he] at h
   cases j with
   | zero=>exact⟨e.v,by rw [UN];exact he⟩
   | succ j =>
    obtain⟨v,hv⟩:=zlh ev (i+1) t n h j (by omega) (by simpa using hl);exact⟨v,by rw [show i+(j+1)=i+1+j by omega];exact hv⟩
  ·rw [Gq he] at h;cases h
theorem zqj (ev:List Ev):qi ev<=ev.length:=by
 unfold qi
 induction ev with
 | nil=>exact UY _
 | cons e ev ih =>
  rw [Kn]
  split
  ·rw [Qs,Qs];omega
  ·exact Gb _
theorem zpc {x:ExD} {locs:Nat} (h:jr x.ev locs=true) (hl:locs<=x.ev.length) (h6:locs<=6):∀ l,l<locs->zY x l≠[]:=by
 intro l hll he;obtain⟨v,hv⟩:=zlh x.ev 0 0 0 h l (by omega) (by omega);have:l∈zY x l:=by
  unfold zY;rw [QT,Uo];refine⟨by omega,?_⟩;have h2:evA x l=⟨-1,2,UInt8.ofNat (0+l),v,0,0,0⟩:=hv;rw [h2,bAT,dE,dE];refine⟨rfl,?_⟩;show (UInt8.ofNat (0+l)).toNat=l;rw [US,KH];exact QC (by omega)
 rw [he] at this
 cases this
abbrev zc5 (x:ExD):List RelD:=[x.po,x.rf,x.co,x.dt,x.ct,x.rm]
theorem zse (x:ExD) (q:OA) (c:Nat) {i:Nat} (hi:i<6):((exC x q c).drop (1+49*i)).take 49=zf ((zc5 x).getD i x.po):=by
 have g:∀ {A T:List Value} {o:Nat} {r:RelD},A.length=o->exC x q c=A++(zf r++T)->((exC x q c).drop o).take 49=zf r:=fun {A T o r} hA hE=>by
  rw [hE,<- hA,Ul,Jg (by rw [zg];decide),JH (by rw [zg];decide)]
 match i,hi with
 | 0,_=>obtain⟨A,T,hA,hE⟩:=znE x q c [];exact g hA (by rw [<- hE,QK];rfl)
 | 1,_=>obtain⟨A,T,hA,hE⟩:=zs5 x q c [];exact g hA (by rw [<- hE,QK];rfl)
 | 2,_=>obtain⟨A,T,hA,hE⟩:=zs7 x q c [];exact g hA (by rw [<- hE,QK];rfl)
 | 3,_=>obtain⟨A,T,hA,hE⟩:=znF x q c [];exact g hA (by rw [<- hE,QK];rfl)
 | 4,_=>obtain⟨A,T,hA,hE⟩:=znG x q c [];exact g hA (by rw [<- hE,QK];rfl)
 | 5,_=>obtain⟨A,T,hA,hE⟩:=znC x q c [];exact g hA (by rw [<- hE,QK];rfl)
theorem zrF (L:Nat) {k:Nat} (hk:k<6):((List.range 6).map (fun i=>Value.pointer (some ⟨L,0+(1+49*i),none⟩)))[k]?=some (.pointer (some ⟨L,0+(1+49*k),none⟩)):=by
 rw [KU,Kh hk];rfl
def okX (x:ExD) (r:RelD):Bool:=decide (r.n=x.ev.length)&&okR r
section
variable {c:Nat} {x:ExD} {q:OA} {w:Wd}
theorem zfr {X:Wd} {b:Nat} (fx:ExH X b x q c) {i:Nat} (hi:i<6):zF X ⟨b,0+(1+49*i),none⟩ (zf ((zc5 x).getD i x.po)):=by
 have h:=zT (n:=1+49*i) (m:=49) (za fx);rw [show (exC x q c).toArray.toList=exC x q c from rfl,zse x q c hi] at h;exact h
theorem ExW.rel (hv:ExW w x q) {i:Nat} (hi:i<6):zH ((zc5 x).getD i x.po).to:=by
 match i,hi with
 | 0,_=>exact hv.po
 | 1,_=>exact hv.rf
 | 2,_=>exact hv.co
 | 3,_=>exact hv.dt
 | 4,_=>exact hv.ct
 | 5,_=>exact hv.rm
theorem zh4 (hv:ExW w x q) (hT:Tz64M w):CB 25 #[.agg (exC x q c).toArray] w (.bool (qN x)):=by
 refine qj 70 [.agg (exC x q c).toArray] (.c .p (.c .p (.c .p (.c .p (.c .p .p))))) Tryz.func25 ?_;obtain⟨L,hL⟩:=nm (w.heap.size);have hn:=hv.n;refine⟨Unit,fun _=>⟨[(1,At0 L)],[]⟩,fun _ X=>ExH X L x q c/\Bw w X,⟨(),⟨.cons (by rw [hL];rfl) .nil,rfl⟩,by rw [hL];exact zu w _,(zba w _)⟩,?_⟩;rintro _ X ⟨fx,hbX⟩;obtain⟨n,hnn⟩:=nm (qi x.ev);refine⟨Unit,fun _=>⟨[(1,At0 L)],[]⟩,fun _ Y=>X=Y,?_,?_⟩
 ·refine⟨_,zc (za fx) (i:=0) rfl,biE (fun h=>?_) fun _=>?_⟩
  ·have h:(48:Int)<(x.ev.length:Nat):=dT h;omega
  exact⟨(),(cvE rfl rfl),rfl⟩
 rintro _ _ rfl;refine⟨Unit,fun _=>⟨[(1,At0 L),(3,i64 (n:Nat))],[]⟩,fun _ Y=>Bw X Y,?_,?_⟩
 ·refine⟨_,zc (za fx) (i:=0) rfl,cmo (zmq (hv.below hbX).ev (by omega)) ?_⟩;rintro e Y ⟨rfl,hbY⟩;rw [<- hnn];exact⟨(),(cvE rfl rfl),hbY⟩
 rintro _ Y hbY;have hvX:=hv.below hbX;have hnl:n<=x.ev.length:=by rw [hnn];exact zqj _
 have hbwY:=zst hbX hbY;have hr0:decide (x.ev.length<=48)=true:=Us (by omega);have no:∀ {Z:Wd},Bw w Z->qN x=false->(Ending.returned (.bool false)=Ending.returned (.bool (qN x))/\Bw w Z):=fun {Z} hb h=>⟨rb h.symm,hb⟩;refine⟨Unit,fun _=>⟨[(1,At0 L),(3,i64 (n:Nat))],[]⟩,fun _ Z=>jr x.ev n=true/\(1<=n/\n<=6)/\ExH Z L x q c/\Bw w Z,?_,?_⟩
 ·refine biE (fun h1=>?_) fun h1=>?_
  ·have h1:(n:Int)<1:=dT h1;refine brT (brT (no hbwY ?_));unfold qN;rw [<- hnn,Uh (by omega:¬ 1<=n),Uj,Ui]
  have h1:¬ (n:Int)<1:=dF h1;refine biE (fun h2=>?_) fun h2=>?_
  ·have h2:(6:Int)<(n:Int):=dT h2;refine brT (no hbwY ?_);unfold qN;rw [<- hnn,Uh (by omega:¬ n<=6),Uj,Ui,Ui]
  have h2:¬ (6:Int)<(n:Int):=dF h2;have hn1:decide (1<=n)=true:=Us (by omega);have hn6:decide (n<=6)=true:=Us (by omega);have fY:=zb hbY fx;refine⟨_,zc (za fY) (i:=0) rfl,cmo (zih (locs:=n) (hvX.below hbY).ev (by omega) (by omega)) ?_⟩;rintro e Z ⟨rfl,hbZ⟩;have hbwZ:=zst hbwY hbZ;refine biE (fun h3=>?_) fun h3=>?_
  ·have h3:jr x.ev n=false:=by
    have h3:(!jr x.ev n)=true:=h3;simpa using h3
   refine no hbwZ ?_;unfold qN;rw [<- hnn,h3,Uj,Ui,Ui,Ui]
  have h3:jr x.ev n=true:=by
   have h3:(!jr x.ev n)=false:=h3;simpa using h3
  exact⟨(),(cvE rfl rfl),h3,by omega,zb hbZ fY,hbwZ⟩
 rintro _ Z ⟨h3,⟨h1,h2⟩,fZ,hbwZ⟩;clear fx hbX hbY hbwY hvX;have hn1:decide (1<=n)=true:=Us h1;have hn6:decide (n<=6)=true:=Us h2;have hright:qN x=(zaN x&&(jl x.po (poR x.ev)&&(zal x&&(j6 x n&&zaB x)))):=by
  unfold qN;rw [<- hnn,hr0,hn1,hn6,h3];rfl
 have hrels:zaN x=(zc5 x).all (okX x):=rfl;refine⟨Unit,fun _=>⟨[(1,At0 L),(3,i64 (n:Nat))],[]⟩,fun _ U=>zaN x=true/\ExH U L x q c/\Bw w U,?_,?_⟩
 ·refine⟨⟨by decide,by decide,rfl⟩,(List.range 6).map (fun i=>Value.pointer (some ⟨L,0+(1+49*i),none⟩)),rfl,?_⟩;obtain⟨g,hg⟩:=nm (Z.heap.size);refine⟨Nat,fun k=>⟨[(1,At0 L),(3,i64 (n:Nat)),(32,.slice (some ⟨g,0,none⟩) 6 6),(33,i64 6),(34,i64 (k:Nat))],[]⟩,fun k U=>k<=6/\((zc5 x).take k).all (okX x)=true/\U.heap[g]?=some (.cells ((List.range 6).map (fun i=>Value.pointer (some ⟨L,0+(1+49*i),none⟩))).toArray 103 (0,0))/\ExH U L x q c/\Bw w U,fun k=>6-k,0,
   ⟨.cons rfl (.cons rfl (.cons (by rw [hg];rfl) (.cons rfl (.cons rfl .nil)))),rfl⟩,⟨Gb _,rfl,by rw [hg];exact zu Z _,qB _ fZ,hbwZ.alloc hbwZ.size _⟩,?_⟩
  clear hg fZ hbwZ;rintro k U ⟨hk,hall,fg,fU,hbU⟩;dsimp only;refine biE (fun hc=>?_) fun hc=>?_
  ·have hc:(k:Int)<6:=dT hc;have hk6:k<6:=by omega
   obtain⟨r,hr⟩:=nm ((zc5 x).getD k x.po);have hkl:k<(zc5 x).length:=hk6;have htk:(zc5 x).take (k+1)=(zc5 x).take k++[r]:=by
    rw [tsg hkl,hr,gDe,gE hkl];rfl
   have hrw:zH r.to:=by rw [hr];exact hv.rel hk6
   have hcel:zF U ⟨L,0+(1+49*k),none⟩ (zf r):=by rw [hr];exact zfr fU hk6
   have dU:Bw U U.drew:=(Gd _ _).drew;have hrm:r∈zc5 x:=by
    rw [hr,gDe,gE hkl];exact gM hkl
   have bad:∀ {Z:Wd},Bw w Z->okX x r=false->(Ending.returned (.bool false)=Ending.returned (.bool (qN x))/\Bw w Z):=fun {Z} hb h=>no hb (by
    have:zaN x=false:=by
     rw [hrels,KM];exact⟨r,hrm,by rw [h];decide⟩
    rw [hright,this];rfl)
   refine⟨k,rfl,hk6,?_⟩;refine⟨.pointer (some ⟨L,0+(1+49*k),none⟩),by
    have:=zc (za fg) (i:=k*1) (v := .pointer (some ⟨L,0+(1+49*k),none⟩)) (by
     rw [UZ];exact zrF L hk6)
    exact this,?_⟩
   refine DrawE.ord [] [0,1,2,3,4,5,6,7,8,9,10,11,12,13,14] (by kernel_rfl) ⟨i64 r.n,zc (zq dU hcel) (i:=0) rfl,_,zc (za (hdr fU)) (i:=0) rfl,biE (fun h4=>?_) fun h4=>?_⟩
   ·have h4:(!decide (r.n=(x.ev.length:Int)))=true:=h4;have h4:¬ r.n=(x.ev.length:Int):=(by simpa using h4);exact brT (bad ((zst hbU dU)) (by unfold okX;rw [Uh h4];rfl))
   have h4:(!decide (r.n=(x.ev.length:Int)))=false:=h4;have h4:r.n=(x.ev.length:Int):=by simpa using h4
   refine⟨zf r,zg _,zq dU hcel,hlt (hdr fU),cmo (jC hrw) ?_⟩;rintro e V ⟨rfl,hbV⟩;refine⟨hbV,?_⟩;have hbV2:=hbU.trans ((dU.trans hbV).mono hbU.size);refine biE (fun h5=>?_) fun h5=>?_
   ·have h5:okR r=false:=by
     have h5:(!okR r)=true:=h5;simpa using h5
    exact bad hbV2 (by unfold okX;rw [h5,Ui])
   have h5:okR r=true:=by
    have h5:(!okR r)=false:=h5;simpa using h5
   refine nxI (by omega) ⟨k+1,(cvE rfl rfl),⟨hk6,?_,zb (dU.trans hbV) fg,zb (dU.trans hbV) fU,hbV2⟩,zdc (by omega)⟩;rw [htk,QJ,hall];show (true&&(okX x r&&true))=true;unfold okX;rw [Us h4,h5];rfl
  ·have hc:¬ (k:Int)<6:=dF hc;obtain rfl:k=6:=by omega
   exact⟨(),(cvE rfl rfl),hall,fU,hbU⟩
 rintro _ U ⟨hrr,fU,hbU⟩;rw [hrr,Uy] at hright;have hall:∀ r∈zc5 x,r.n=x.ev.length/\okR r=true:=fun r hr=>by
  rw [hrels,Qj] at hrr;have:=hrr r hr;unfold okX at this;rw [bAT,dE] at this;exact this
 have hrf:=hall x.rf (by simp);have hrm:=hall x.rm (by simp);have hvU:=hv.below hbU;have dU:Bw U U.drew:=(Gd _ _).drew;have hvD:=hvU.below dU;have hbD:=zst hbU dU;refine DrawE.ord [] [0,1,2,3,4,5,6,7,8,9,10,11,12,13,14,15,16] (by kernel_rfl) ⟨zf x.po,zg _,zfr (hdr fU) (i:=0) (by decide),hlt (hdr fU),_,zc (za (hdr fU)) (i:=0) rfl,cmo (zdh hvD.ev (by omega)) ?_⟩;rintro e V ⟨rfl,hbV⟩;refine⟨hbV,?_⟩;have hbV2:=zst hbD hbV;have fV:=zb hbV (hdr fU);have hvV:=hvD.below hbV;refine⟨_,fun w=>znL _ _ x.po (poR x.ev) w,biE (fun h4=>?_) fun h4=>?_⟩
 ·have h4:jl x.po (poR x.ev)=true:=h4;rw [h4,Uy] at hright;refine cmo (zos fV hvV hrf.1 hrf.2 (hT.below hbV2)) ?_;rintro e T ⟨rfl,hbT⟩;refine⟨hbT,?_⟩;have hbT2:=zst hbV2 hbT;refine biE (fun h5=>?_) fun h5=>?_
  ·have h5:zal x=true:=h5;rw [h5,Uy] at hright;refine cmo (zoW (locs:=n) (zb hbT fV) (hvV.below hbT) (by omega) (zpc h3 hnl (by omega)) (hT.below hbT2)) ?_;rintro e R ⟨rfl,hbR⟩;refine⟨hbR,?_⟩;have hbR2:=zst hbT2 hbR;refine biE (fun h6=>?_) fun h6=>?_
   ·have h6:j6 x n=true:=h6;rw [h6,Uy] at hright;refine cmo (zmC (zb hbR (zb hbT fV)) ((hvV.below hbT).below hbR) hrm.1 hrm.2 (hT.below hbR2)) ?_;rintro e Q ⟨rfl,hbQ⟩;exact⟨hbQ,rb hright.symm,(zst hbR2 hbQ)⟩
   ·have h6:j6 x n=false:=h6;rw [h6,Uj] at hright;exact⟨rb hright.symm,hbR2⟩
  ·have h5:zal x=false:=h5;rw [h5,Uj] at hright;exact brF ⟨rb hright.symm,hbT2⟩
 ·have h4:jl x.po (poR x.ev)=false:=h4;rw [h4,Uj] at hright;exact brF (brF ⟨rb hright.symm,hbV2⟩)
end
theorem zhU {a b:RelD} {f:Nat->Nat} (h:a.n=b.n->okR a=true->okR b=true->∀ i,i<48->f i<2^64):zH (comb a b f).1.to:=by
 unfold comb
 split
 ·rename_i hc;rw [bAT,bAT,dE] at hc;exact zdT fun i _ hi=>h hc.1 hc.2.1 hc.2.2 i hi
 ·exact fun i _=>(by show 0<2^64;decide)
theorem zn8 {a b:RelD} (ha:zH a.to) (hb:zH b.to):zH (ju a b).1.to:=zhU fun _ _ _ i hi=>KY (ha i hi) (hb i hi)
theorem zqV {a b:RelD} (ha:zH a.to):zH (za6 a b).1.to:=zhU fun _ _ _ i hi=>KE QY (ha i hi)
theorem zdb {a b:RelD} (ha:zH a.to) (hb:zH b.to):zH (jk a b).1.to:=zhU fun _ h _ i hi=>by
 unfold zdn;exact zlb hb _ _ (by decide) fun j hj=>(zjw h ha hi j hj).2
theorem zdF (k:Nat) (p:Nat->Bool):zfp (k+1) p=if p k=true then zfp k p|||2^k else zfp k p:=by
 unfold zfp;rw [QW,KT];rfl
theorem zeD (p:Nat->Bool):∀ k,k<=64->zfp k p<2^64
 | 0,_=>by show 0<_;decide
 | k+1,h=>by
  rw [zdF]
  split
  ·exact KY (zeD p k (by omega)) (z3 (by omega))
  ·exact zeD p k (by omega)
theorem zeM {n:Nat} {p:Nat->Nat->Bool} (hn:n<=64):zH (zbN n p).to:=zdT fun i _ _=>zeD _ n hn
structure RelOk (n:Nat) (r:RelD):Prop where
 n:r.n=n
 ok:okR r=true
 w:zH r.to
section
variable {n:Nat} {r a b:RelD}
theorem RelOk.le (h:RelOk n r):n<=48:=by
 have:=(q9 h.ok).2.1;have:=h.n;omega
theorem RelOk.bit (h:RelOk n r) {i j:Nat} (hi:i<48) (hb:zh r i j=true):i<n/\j<n:=by
 have:=zjx h.ok h.w hi hb;have:=h.n;omega
theorem ztG (hn:r.n=n) (h48:n<=48) (h:∀ i j,i<48->zh r i j=true->i<n/\j<n):okR r=true:=by
 unfold okR;rw [bAT,bAT,dE,dE,Qj];refine⟨by omega,by omega,fun i hi=>?_⟩;have hi:=Uo.1 hi;unfold zbJ;rw [bAT,QH,dE,dE,dE];refine⟨?_,?_⟩
 ·rw [zaX,zaI];apply Kc;intro j;rw [QD];by_cases hj:j<64
  ·rw [zaP (zaq _) hj,zbn (by omega) (by omega) hj]
   cases hb:(r.to i).testBit j with
   | false=>rfl
   | true =>
    have:=(h i j hi hb).2;rw [Us (by omega)];rfl
  ·have:=JI (nL (KE (show qG (r.to i) (zar r.n)<=_ from Qx) (show 18446744073709551615-zar r.n<2^64 by omega)) (Kd (show 0<2 by decide) (show 64<=j by omega)));exact this
 ·by_cases hin:i<n
  ·exact .inl (by omega)
  ·refine .inr (Kc fun j=>?_);rw [QD]
   cases hb:(r.to i).testBit j with
   | false=>rfl
   | true=>exact Gs (h i j hi hb).1 hin
theorem RelOk.of (hn:r.n=n) (h48:n<=48) (h:∀ i j,i<48->zh r i j=true->i<n/\j<n) (hw:zH r.to):RelOk n r:=⟨hn,ztG hn h48 h,hw⟩
theorem zgr (p:Nat->Bool):∀ k j,(zfp k p).testBit j=(decide (j<k)&&p j)
 | 0,j=>by
  show (0:Nat).testBit j=_;simp
 | k+1,j=>by
  rw [zdF]
  split
  ·rename_i h;rw [Ur,zgr p k j,j4];by_cases e:j=k
   ·subst e;simp [h]
   ·rw [Uh e,Ux];congr 1;exact QG.2 (by omega)
  ·rename_i h;rw [zgr p k j];by_cases e:j=k
   ·subst e;have:p j=false:=(by simpa using h);rw [this,Ui,Ui]
   ·congr 1;exact QG.2 (by omega)
theorem zdU {f:Nat->Nat} {i j:Nat}:zh (jT n f) i j=(decide (i<n)&&(f i).testBit j):=by
 unfold zh jT;dsimp only
 split
 ·rename_i h;rw [Us h];rfl
 ·rename_i h;rw [Uh h,QD];rfl
theorem zg8 {p:Nat->Nat->Bool} {i j:Nat}:zh (zbN n p) i j=(decide (i<n)&&(decide (j<n)&&p i j)):=by
 unfold zbN;rw [zdU,zgr]
theorem RelOk.pick (h:n<=48) (p:Nat->Nat->Bool):RelOk n (zbN n p):=by
 refine .of rfl h (fun i j _ hb=>?_) (zeM (by omega));rw [zg8] at hb;simp only [bAT,dE] at hb;exact⟨hb.1,hb.2.1⟩
theorem zgD {f:Nat->Nat} (ha:RelOk n a) (hb:RelOk n b):comb a b f=(jT n f,0):=by
 unfold comb;have e:a.n.toNat=n:=by have:=ha.n;omega
 rw [Us (ha.n.trans hb.n.symm),ha.ok,hb.ok,Gr (show (true&&(true&&true))=true from rfl),e]
theorem RelOk.comb {f:Nat->Nat} (ha:RelOk n a) (hb:RelOk n b) (hf:∀ i j,i<n->(f i).testBit j=true->j<n):RelOk n (comb a b f).1:=by
 rw [zgD ha hb];have h48:=ha.le;have hbit:∀ i j,zh (jT n f) i j=true->i<n/\j<n:=fun i j h=>by
  rw [zdU,bAT,dE] at h;exact⟨h.1,hf i j h.1 h.2⟩
 refine .of rfl h48 (fun i j _ h=>hbit i j h) fun i hi=>?_;apply Qz;intro hge;obtain⟨j,hj1,hj2⟩:=Ja hge;have:=(hbit i j hj2).2;omega
theorem zdE (ha:RelOk n a) (hb:RelOk n b) {i j:Nat} (hi:i<n):zh (ju a b).1 i j=(zh a i j||zh b i j):=by
 unfold ju;rw [zgD ha hb];show zh (jT n _) i j=_;rw [zdU,Us hi,Ur];rfl
theorem RelOk.union (ha:RelOk n a) (hb:RelOk n b):RelOk n (ju a b).1:=ha.comb hb fun i j hi h=>by
 rw [Ur,QH] at h;have h48:=ha.le;rcases h with h | h
 ·exact (ha.bit (by omega) h).2
 ·exact (hb.bit (by omega) h).2
theorem jU (ha:RelOk n a) {i j:Nat} (hi:i<64):zh (zQ a) i j=(decide (j<n)&&zh a j i):=by
 unfold zh;rw [zlE ha.ok];have e1:decide ((j:Int)<a.n)=decide (j<n):=QG.2 (by have:=ha.n;omega);have e2:decide (i∈els (a.to j))=(a.to j).testBit i:=by
  cases h:(a.to j).testBit i with
  | true=>exact Us (qJ.2 ⟨hi,h⟩)
  | false=>exact Uh fun hm=>by rw [(qJ.1 hm).2] at h;cases h
 rw [e1,e2]
theorem RelOk.back (ha:RelOk n a):RelOk n (zQ a):=by
 have h48:=ha.le;have hbit:∀ i j,i<48->zh (zQ a) i j=true->i<n/\j<n:=fun i j hi h=>by
  rw [jU ha (by omega),bAT,dE] at h;exact⟨(ha.bit (by omega) h.2).2,h.1⟩
 refine .of ?_ h48 hbit fun i hi=>?_
 ·unfold zQ;rw [Gr ha.ok];exact ha.n
 ·apply Qz;intro hge;obtain⟨j,hj1,hj2⟩:=Ja hge;have:=(hbit i j hi hj2).2;omega
theorem zfE {tq:Nat->Nat} {j:Nat}:∀ (l:List Nat) (t:Nat),(l.foldl (fun t a=>t|||tq a) t).testBit j=(t.testBit j||l.any fun a=>(tq a).testBit j)
 | [],t=>by simp
 | a::l,t=>by rw [QM,zfE l,Ur,UB,Bool.or_assoc]
theorem zkh (ha:RelOk n a) (hb:RelOk n b) {i j:Nat} (hi:i<n):zh (jk a b).1 i j=true↔∃ k,k<n/\zh a i k=true/\zh b k j=true:=by
 unfold jk;rw [zgD ha hb];show zh (jT n _) i j=true↔_;have h48:=ha.le;rw [zdU,Us hi,Uy];unfold zdn;rw [zfE,QD,Uv,Qk];constructor
 ·rintro⟨k,hk,h⟩;exact⟨k,(ha.bit (by omega) (qJ.1 hk).2).2,(qJ.1 hk).2,h⟩
 ·rintro⟨k,hk,h1,h2⟩;exact⟨k,qJ.2 ⟨by omega,h1⟩,h2⟩
theorem RelOk.then (ha:RelOk n a) (hb:RelOk n b):RelOk n (jk a b).1:=ha.comb hb fun i j hi h=>by
 have h48:=ha.le;unfold zdn at h;rw [zfE,QD,Uv,Qk] at h;obtain⟨k,hk,h⟩:=h;have:=(ha.bit (by omega) (qJ.1 hk).2).2;exact (hb.bit (by omega) h).2
def zrf (before:Nat->Nat) (left:Nat):Prop:=∀ S,S≠0->S&&&left=S->∃ i∈els S,before i&&&S=0
theorem zmY {before:Nat->Nat}:∀ (m left:Nat) (l:List Nat),left<2^64->(els left).length<=m->((zgf before m left l).isSome=true↔zrf before left)
 | 0,left,l,h64,hm=>by
  have h0:left=0:=zcW h64 (by rw [Qr];exact List.length_eq_zero_iff.1 (by omega));subst h0;exact⟨fun _ S hS he=>Gs he.symm (by rw [Nat.and_zero];exact hS),fun _=>rfl⟩
 | m+1,left,l,h64,hm=>by
  by_cases h0:left=0
  ·subst h0;have e:zgf before (m+1) 0 l=some l:=Gr rfl;rw [e];exact⟨fun _ S hS he=>Gs he.symm (by rw [Nat.and_zero];exact hS),fun _=>rfl⟩
  have e:zgf before (m+1) left l=match zbl before left with | none=>none | some a=>zgf before m (jD left (2^a)) (l++[a]):=Gq h0
  rw [e]
  cases hf:zbl before left with
  | none =>
   refine⟨fun h=>(by cases h),fun h=>?_⟩;obtain⟨i,hi,hb⟩:=h left h0 (Nat.and_self _);unfold zbl at hf;rw [List.find?_eq_none] at hf;exact Gs (Us hb) (hf i hi)
  | some k =>
   have hk:=zld hf;have hk2:before k&&&left=0:=by
    unfold zbl at hf;have:=List.find?_some hf;exact dT this
   have hk64:=zmB hk;have hlen:=zap h64 hk;have hsub:∀ S,S&&&qG left (2^k)=S->S&&&left=S:=fun S h=>by
    rw [<- h];unfold qG;apply Kc;intro j;simp only [Uc]
    cases S.testBit j <;> cases left.testBit j <;> simp
   dsimp only;rw [zaX,zmY m (qG left (2^k)) (l++[k]) (zah h64) (by omega)];constructor
   ·intro h S hS he;by_cases hm2:k∈els S
    ·refine⟨k,hm2,?_⟩;rw [<- he,Nat.and_comm S left,<- Nat.and_assoc,hk2,Nat.zero_and]
    ·refine h S hS (Kc fun j=>?_);rw [Uc]
     cases hb:S.testBit j with
     | false=>rfl
     | true =>
      have hl:left.testBit j=true:=by
       have h2:=hb;rw [<- he,Uc,bAT] at h2;exact h2.2
      have hj:j<64:=by
       apply Qz;intro hj;have:=JI (nL h64 (Kd (by decide) hj));rw [this] at hl;cases hl
      have hjk:¬ j=k:=fun e=>hm2 (qJ.2 ⟨hk64,by rw [<- e];exact hb⟩);rw [zaP (z3 hk64) hj,hl,j4,Uh hjk];rfl
   ·exact fun h S hS he=>h S hS (hsub S he)
theorem zgH (ha:RelOk n a):zae a=true↔zrf (zQ a).to (zar n):=by
 have h48:=ha.le;unfold zae za8;rw [Gr ha.ok,zaI,ha.n];refine zmY 64 _ _ (zaq _) ?_;unfold els;have:=JM (fun i=>(zar n).testBit i) (List.range 64);rw [KV] at this;exact this
theorem zq7 (ha:RelOk n a) (hb:RelOk n b) (hs:∀ i j,i<n->j<n->zh b i j=true->zh a i j=true) (h:zae a=true):zae b=true:=by
 have h48:=ha.le;rw [zgH ha] at h;rw [zgH hb];intro S hS he;obtain⟨i,hi,h0⟩:=h S hS he;refine⟨i,hi,Kc fun j=>?_⟩;have h1:=Gl (fun s=>s.testBit j) h0;simp only [Uc,QD] at h1 ⊢
 cases hj:S.testBit j with
 | false=>rw [Ui]
 | true =>
  rw [hj,Bool.and_true] at h1;rw [Bool.and_true];have hi64:=zmB hi;have e1:=jU ha (i:=i) (j:=j) hi64;have e2:=jU hb (i:=i) (j:=j) hi64;unfold zh at e1 e2 hs;rw [e1] at h1;rw [e2];by_cases hjn:j<n
  ·rw [Us hjn,Uy] at h1 ⊢
   cases hbj:(b.to j).testBit i with
   | false=>rfl
   | true =>
    have hin:=(hb.bit (i:=j) (j:=i) (by omega) hbj).2;rw [hs j i hjn hin hbj] at h1;cases h1
  ·rw [Uh hjn];rfl
end
structure WX (x:ExD):Prop where
 po:zH x.po.to
 rf:zH x.rf.to
 co:zH x.co.to
 dt:zH x.dt.to
 ct:zH x.ct.to
 rm:zH x.rm.to
structure XOk (x:ExD):Prop where
 n:x.ev.length<=48
 po:RelOk x.ev.length x.po
 rf:RelOk x.ev.length x.rf
 co:RelOk x.ev.length x.co
 dt:RelOk x.ev.length x.dt
 ct:RelOk x.ev.length x.ct
 rm:RelOk x.ev.length x.rm
 ev:jr x.ev (qi x.ev)=true
 poE:jl x.po (poR x.ev)=true
 rfR:zal x=true
 coR:j6 x (qi x.ev)=true
 dep:zaB x=true
section
variable {x:ExD}
theorem ztg (hw:WX x) (h:qN x=true):XOk x:=by
 unfold qN zaN at h;simp only [UA,List.all_nil,Bool.and_true,bAT,dE] at h;obtain⟨h1,_,_,h4,⟨h5,h6,h7,h8,h9,h10⟩,h11,h12,h13,h14⟩:=h;exact⟨h1,⟨h5.1,h5.2,hw.po⟩,⟨h6.1,h6.2,hw.rf⟩,⟨h7.1,h7.2,hw.co⟩,⟨h8.1,h8.2,hw.dt⟩,⟨h9.1,h9.2,hw.ct⟩,⟨h10.1,h10.2,hw.rm⟩,h4,h11,h12,h13,h14⟩
theorem zdo (h:XOk x):RelOk x.ev.length (frM x):=h.rf.back.then h.co
theorem zgM {n:Nat}:∀ {l:List RelD} {r:RelD},RelOk n r->(∀ o∈l,RelOk n o)->RelOk n (qb r l)
 | [],_,h,_=>h
 | o::l,r,h,hl=>zgM (l:=l) (r:=(ju r o).1) (h.union (hl o Kz)) fun y hy=>hl y (JY _ hy)
theorem zgN {n i j:Nat} (hi:i<n):∀ {l:List RelD} {r:RelD},RelOk n r->(∀ o∈l,RelOk n o)->zh (qb r l) i j=(zh r i j||l.any fun o=>zh o i j)
 | [],_,_,_=>by rw [List.any_nil,Ux];rfl
 | o::l,r,h,hl=>by
  have ho:=hl o Kz;have:=zgN (j:=j) hi (l:=l) (r:=(ju r o).1) (h.union ho) fun y hy=>hl y (JY _ hy);show zh (qb (ju r o).1 l) i j=_;rw [this,zdE h ho hi,UB,Bool.or_assoc]
theorem zsb (h:XOk x) {r:RelD} (hr:RelOk x.ev.length r):RelOk x.ev.length (zd0 x r):=by
 have e:r.n.toNat=x.ev.length:=by have:=hr.n;omega
 unfold zd0;rw [e];exact .pick h.n _
def zhg (m:Nat) (x:ExD):RelD:=qb (zaA m x) [if m=2 then x.rf else zd0 x x.rf,x.co,frM x]
theorem zoF {A B C:Bool} {m:Nat}:(if A=true then (if B=true then (if m=1 then 0 else if C=true then 0 else 3) else 2) else 1)=0↔A=true/\B=true/\(m=1\/C=true):=by
 by_cases h:m=1 <;> cases A <;> cases B <;> cases C <;> simp [h]
theorem zhY {m:Nat}:qK m x=0↔zae (qb (zbs x) [x.rf,x.co,frM x])=true/\zbX (za6 x.rm (jk (frM x) x.co).1).1=true/\(m=1\/zae (zhg m x)=true):=by
 unfold qK zhg;exact zoF
theorem zrD (h:XOk x) {m:Nat}:RelOk x.ev.length (if m=2 then x.rf else zd0 x x.rf):=by
 split
 ·exact h.rf
 ·exact zsb h h.rf
theorem zkP (h:XOk x) {m:Nat}:∀ o∈[if m=2 then x.rf else zd0 x x.rf,x.co,frM x],RelOk x.ev.length o:=by
 simp only [UD,Qv,Gn,forall_eq_or_imp,forall_eq];exact⟨zrD h,h.co,zdo h⟩
theorem zk6 (h:XOk x) {m:Nat}:RelOk x.ev.length (zaA m x) := .pick h.n _
end
section
variable {n:Nat} {a b:RelD} {x:ExD}
theorem zfs (h:jl a b=true) {i j:Nat} (hi:i<48):zh a i j=zh b i j:=by
 unfold jl at h;rw [bAT,Qj] at h;have:=dT (h.2 i (Uo.2 hi));unfold zh;rw [this]
theorem zjZ {t:Int}:∀ (es:List Ev) (j s k:Nat),(zg7 t j es s).testBit k=true↔s.testBit k=true\/∃ m,m<es.length/\k=j+m/\(es.getD m ev0).th=t
 | [],j,s,k=>by
  show s.testBit k=true↔_;simp
 | e::es,j,s,k=>by
  show (zg7 t (j+1) es (if e.th=t then s|||2^j else s)).testBit k=true↔_;rw [zjZ es];have hs:(if e.th=t then s|||2^j else s).testBit k=true↔s.testBit k=true\/(k=j/\e.th=t):=by
   split
   ·rename_i h;rw [Ur,j4,QH,dE];simp [h]
   ·rename_i h;simp [h]
  rw [hs];constructor
  ·rintro ((h | ⟨h1,h2⟩) | ⟨m,h1,h2,h3⟩)
   ·exact .inl h
   ·exact .inr ⟨0,by simp,h1,h2⟩
   ·exact .inr ⟨m+1,by simpa using h1,by omega,by simpa using h3⟩
  ·rintro (h | ⟨m,h1,h2,h3⟩)
   ·exact .inl (.inl h)
   ·cases m with
    | zero=>exact .inl (.inr ⟨h2,h3⟩)
    | succ m=>exact .inr ⟨m,by simpa using h1,by omega,by simpa using h3⟩
theorem zjp (h:XOk x) {i j:Nat} (hi:i<x.ev.length):zh x.po i j=true↔(evA x i).th ≠ -1/\i<j/\j<x.ev.length/\(evA x j).th=(evA x i).th:=by
 have h48:=h.n;rw [zfs h.poE (by omega)];have hg:x.ev[i]?=some (evA x i):=by
  rw [gE hi];unfold evA;rw [gDe,gE hi];rfl
 show (zbx x.ev i).testBit j=true↔_;unfold zbx;rw [hg];dsimp only;by_cases ht:(evA x i).th = -1
 ·rw [Gr ht];simp [ht]
 ·rw [Gq ht,zjZ,QD];have hd:∀ m,(x.ev.drop (i+1)).getD m ev0=evA x (i+1+m):=fun m=>by
   unfold evA;rw [gDe,gDe,Kw]
  constructor
  ·rintro (h | ⟨m,h1,h2,h3⟩)
   ·cases h
   ·rw [hd] at h3;rw [Qt] at h1;subst h2;exact⟨ht,by omega,by omega,h3⟩
  ·rintro⟨_,h1,h2,h3⟩;refine .inr ⟨j-(i+1),by rw [Qt];omega,by omega,?_⟩;rw [hd,show i+1+(j-(i+1))=j by omega];exact h3
theorem zg6 (h:XOk x) {i j k:Nat} (hi:i<x.ev.length) (h1:zh x.po i j=true) (h2:zh x.po j k=true):zh x.po i k=true:=by
 obtain⟨a1,a2,a3,a4⟩:=(zjp h hi).1 h1;obtain⟨b1,b2,b3,b4⟩:=(zjp h a3).1 h2;exact (zjp h hi).2 ⟨a1,by omega,b3,b4.trans a4⟩
theorem zf3 {key:Nat->Nat} {y:Nat}:∀ r:List Nat,(jh key r y).Perm (y::r)
 | [] => .refl _
 | z::r=>by
  unfold jh
  split
  ·exact ((zf3 r).cons z).trans (.swap y z r)
  ·exact .refl _
theorem ziP {key:Nat->Nat}:∀ (l acc:List Nat),(l++acc).Nodup->(l.foldl (fun acc x=>jh key acc x) acc).Nodup
 | [],acc,h=>h
 | y::l,acc,h=>ziP l _ (by
   have p:(l++jh key acc y).Perm (y::l++acc):=((zf3 acc).append_left l).trans List.perm_middle;exact p.nodup_iff.2 h)
theorem zg1 (l:Nat):(zN x l).Nodup:=by
 unfold zN zde;refine (List.reverse_perm _).nodup_iff.2 (ziP _ _ ?_);rw [QK];exact List.nodup_range.filter _
theorem ziN:∀ (l:List Nat) (f:Nat->Nat) (b:Nat) (P:List Nat),(P++l).Nodup->(∀ j,b.testBit j=true->j∈P)->∀ i j,(zd5 l f b i).testBit j=true->(f i).testBit j=true\/(i∈l/\j∈P++l/\i≠j)
 | [],f,b,P,_,_,i,j,h => .inl h
 | y::l,f,b,P,hn,hb,i,j,h=>by
  have hn2:((P++[y])++l).Nodup:=by rw [KO];exact hn
  have hy:y ∉ P:=fun hy=>by
   rw [List.nodup_append] at hn;exact hn.2.2 y hy y Kz rfl
  have:=ziN l (upd f y b) (b|||2^y) (P++[y]) hn2 (fun j hj=>by
   rw [Ur,j4,QH,dE] at hj;rcases hj with hj | hj
   ·exact JW _ (hb j hj)
   ·rw [hj];simp) i j h
  rcases this with h1 | ⟨h1,h2,h3⟩
  ·by_cases hi:i=y
   ·subst hi;rw [zP] at h1;have hj:=hb j h1;exact .inr ⟨by simp,JW _ hj,fun e=>hy (e▸hj)⟩
   ·rw [qk _ _ hi] at h1;exact .inl h1
  ·refine .inr ⟨JY _ h1,?_,h3⟩;rw [KO] at h2;exact h2
theorem zs8:∀ (m l:Nat) (p q:RelD×(Nat->UInt8)),ze8 x m l p=some q->∀ i j,zh q.1 i j=true->zh p.1 i j=true\/∃ l,i∈zN x l/\j∈zN x l/\i≠j
 | 0,l,p,q,h,i,j,hb=>by
  have h:some p=some q:=h;rw [Uf h];exact .inl hb
 | m+1,l,p,q,h,i,j,hb=>by
  unfold ze8 at h
  split at h
  ·rcases zs8 m (l+1) _ q h i j hb with h1 | h1
   ·have h1:(zd5 (zN x l).reverse p.1.to 0 i).testBit j=true:=h1;rcases ziN _ _ 0 [] (by rw [QU];exact (List.reverse_perm _).nodup_iff.2 (zg1 l)) (fun j hj=>by rw [QD] at hj;cases hj) i j h1 with h2 | ⟨h2,h3,h4⟩
    ·exact .inl h2
    ·rw [QU] at h3;exact .inr ⟨l,List.mem_reverse.1 h2,List.mem_reverse.1 h3,h4⟩
   ·exact .inr h1
  ·cases h
theorem zg0 {l i:Nat} (h:i∈zN x l):isW x i=true/\(evA x i).l.toNat=l:=by
 have h:=zfl.1 h;unfold zY at h;have:=(QT.1 h).2;rw [bAT,dE,dE] at this;exact⟨Us this.1,this.2⟩
theorem zlt (h:XOk x) {i j:Nat} (hi:i<x.ev.length) (hb:zh x.co i j=true):isW x i=true/\isW x j=true/\(evA x i).l=(evA x j).l/\i≠j:=by
 have h48:=h.n;have hc:=h.coR;unfold j6 at hc
 split at hc
 ·cases hc
 ·rename_i p hp;rw [bAT] at hc;rw [<- zfs hc.1 (by omega)] at hb;rcases zs8 _ _ _ _ hp i j hb with h1 | ⟨l,h1,h2,h3⟩
  ·have h1:(0:Nat).testBit j=true:=h1;rw [QD] at h1;cases h1
  ·have r1:=zg0 h1;have r2:=zg0 h2;exact⟨r1.1,r2.1,Ug.1 (r1.2.trans r2.2.symm),h3⟩
theorem zgX (h:XOk x) {w i:Nat} (hw:w<x.ev.length) (hi:i<x.ev.length) (hb:zh x.rf w i=true):isR x i=true/\w=ctz ((zQ x.rf).to i)/\isW x w=true/\(evA x w).l=(evA x i).l:=by
 have h48:=h.n;have hr:=h.rfR;unfold zal at hr;rw [Qj] at hr;have h1:=hr i (Uo.2 hi);have hbit:((zQ x.rf).to i).testBit w=true:=by
  have:=jU h.rf (i:=i) (j:=w) (by omega);unfold zh at this hb;rw [this,hb,Us hw];rfl
 have h0:¬ (zQ x.rf).to i=0:=fun e=>by rw [e,QD] at hbit;cases hbit
 unfold zbL at h1
 split at h1
 ·rename_i hk
  try rw [Gq h0] at h1
  split at h1
  ·rename_i hs;have hwz:w=ctz ((zQ x.rf).to i):=by
    rw [hs,j4] at hbit;exact dT hbit
   rw [<- hwz] at h1;simp only [bAT,dE] at h1;exact⟨Us hk,hwz,Us h1.1,h1.2.1⟩
  ·cases h1
 ·exact (h0 (dT h1)).elim
theorem zqp (h:XOk x) {i j:Nat} (hi:i<x.ev.length) (hj:j<x.ev.length) (hb:zh (frM x) i j=true):isR x i=true/\isW x j=true/\(evA x i).l=(evA x j).l/\zh x.rf j i=false:=by
 have h48:=h.n;obtain⟨k,hk,h1,h2⟩:=(zkh h.rf.back h.co hi).1 hb;rw [jU h.rf (by omega),bAT] at h1;obtain⟨a1,a2,a3,a4⟩:=zgX h hk hi h1.2;obtain⟨b1,b2,b3,b4⟩:=zlt h hk h2;refine⟨a1,b2,a4.symm.trans b3,?_⟩
 cases hc:zh x.rf j i with
 | false=>rfl
 | true=>exact (b4 (a2.trans (zgX h hj hi hc).2.1.symm)).elim
end
section
variable {n:Nat} {r:RelD} {x:ExD}
theorem zsm {j:Nat} (h:j<64):ctz (2^j)=j:=by
 have h2:(2:Nat)^j<2^64:=Ke (by decide) h;have:=(qJ.1 (zgC (Nat.ne_of_gt (Nat.pow_pos (by decide))) h2)).2;rw [j4] at this;exact dT this
theorem zhZ {s:Nat} (h:s≠0):∃ j,s.testBit j=true:=by
 refine Jp fun hn=>h (Kc fun j=>?_);rw [QD]
 cases hb:s.testBit j with
 | false=>rfl
 | true=>exact (hn ⟨j,hb⟩).elim
theorem zpL (hrf:RelOk x.ev.length x.rf):zal x=true↔(∀ a b,a<x.ev.length->b<x.ev.length->zh x.rf a b=true->isW x a=true/\isR x b=true/\(evA x a).l=(evA x b).l/\(evA x a).v=(evA x b).v) /\
  ∀ b,b<x.ev.length->isR x b=true->(∃ j,j<x.ev.length/\zh x.rf j b=true)/\∀ i j,i<x.ev.length->j<x.ev.length->zh x.rf i b=true->zh x.rf j b=true->i=j:=by
 have h48:=hrf.le;have bk:∀ i,i<x.ev.length->∀ j,((zQ x.rf).to i).testBit j=(decide (j<x.ev.length)&&zh x.rf j i):=fun i hi j=>jU hrf (by omega);have w64:∀ i,i<x.ev.length->(zQ x.rf).to i<2^64:=fun i hi=>hrf.back.w i (by omega);unfold zal;rw [Qj];constructor
 ·intro h;have one:∀ b,b<x.ev.length->∀ a,zh x.rf a b=true->a<x.ev.length->(evA x b).k=1/\a=ctz ((zQ x.rf).to b)/\(evA x a).k=2/\(evA x a).l=(evA x b).l/\(evA x a).v=(evA x b).v:=fun b hb a hab ha=>by
   have h1:=h b (Uo.2 hb);have hbit:((zQ x.rf).to b).testBit a=true:=by rw [bk b hb,hab,Us ha];rfl
   have h0:¬ (zQ x.rf).to b=0:=fun e=>by rw [e,QD] at hbit;cases hbit
   unfold zbL at h1;by_cases hk:(evA x b).k=1
   ·rw [Gr hk,Gq h0] at h1;by_cases hs:(zQ x.rf).to b=2^ctz ((zQ x.rf).to b)
    ·rw [Gr hs] at h1;have hz:a=ctz ((zQ x.rf).to b):=by
      rw [hs,j4] at hbit;exact dT hbit
     rw [<- hz] at h1;simp only [bAT,dE] at h1;exact⟨hk,hz,h1⟩
    ·rw [Gq hs] at h1;cases h1
   ·rw [Gq hk] at h1;exact (h0 (dT h1)).elim
  refine⟨fun a b ha hb hab=>?_,fun b hb hr=>⟨?_,fun i j hi hj h1 h2=>?_⟩⟩
  ·obtain⟨h1,_,h3,h4⟩:=one b hb a hab ha;exact⟨Us h3,Us h1,h4⟩
  ·have h1:=h b (Uo.2 hb);unfold zbL at h1;rw [Gr (dT hr:(evA x b).k=1)] at h1;by_cases h0:(zQ x.rf).to b=0
   ·rw [Gr h0] at h1;cases h1
   ·obtain⟨j,hj⟩:=zhZ h0;rw [bk b hb,bAT,dE] at hj;exact⟨j,hj⟩
  ·exact (one b hb i h1 hi).2.1.trans (one b hb j h2 hj).2.1.symm
 ·rintro⟨h1,h2⟩ b hb;have hb:=Uo.1 hb;unfold zbL;by_cases hk:(evA x b).k=1
  ·rw [Gr hk];obtain⟨⟨j,hj,hj1⟩,hu⟩:=h2 b hb (Us hk);have hs:(zQ x.rf).to b=2^j:=Kc fun i=>by
    rw [bk b hb,j4];by_cases hij:i=j
    ·rw [hij,hj1,Us hj,Us rfl];rfl
    ·rw [Uh hij]
     cases hi:zh x.rf i b with
     | false=>rw [Ui]
     | true =>
      by_cases hin:i<x.ev.length
      ·exact (hij (hu i j hin hj hi hj1)).elim
      ·rw [Uh hin];rfl
   have hz:ctz ((zQ x.rf).to b)=j:=by rw [hs];exact zsm (by omega)
   have h0:¬ (zQ x.rf).to b=0:=by rw [hs];exact Nat.ne_of_gt (Nat.pow_pos (by decide))
   rw [Gq h0,hz,Gr hs];obtain⟨a1,_,a3,a4⟩:=h1 j b hj hb hj1;rw [Us (dT a1:(evA x j).k=2),Us a3,Us a4];rfl
  ·rw [Gq hk];refine Us (Kc fun j=>?_);rw [bk b hb,QD];by_cases hj:j<x.ev.length
   ·cases hjb:zh x.rf j b with
    | false=>rw [Ui]
    | true=>exact (hk (dT (h1 j b hj hb hjb).2.1)).elim
   ·rw [Uh hj];rfl
end
section
variable {x : ExD}
theorem zdJ {a b : Nat} (ha : a < 2 ^ 64) (hb : b < 2 ^ 64) : jD a b = 0 ↔ ∀ j, a.testBit j = true → b.testBit j = true := by
  rw [zaX]
  constructor
  · intro h j hj
    have hj64 : j < 64 := by
      refine Qz fun hge => ?_
      rw [JI (KF ha (Kd (by decide) hge))] at hj
      cases hj
    have := zaP (a := a) hb hj64
    rw [h, QD, hj, Uy] at this
    cases hc : b.testBit j with
    | true => rfl
    | false => rw [hc] at this; cases this
  · intro h
    refine Kc fun j => ?_
    rw [QD]
    by_cases hj : j < 64
    · rw [zaP (a := a) hb hj]
      cases hc : a.testBit j with
      | false => rfl
      | true => rw [h j hc]; rfl
    · exact JI (KF (KE (show qG a b ≤ a from QY) ha) (Kd (by decide) (by omega)))
theorem zpe (x : ExD) : ∀ k j, ((List.range k).foldl (fun s i => if (evA x i).k = 2 then s ||| 2 ^ i else s) 0).testBit j = (decide (j < k) && isW x j)
  | 0, j => by show (0 : Nat).testBit j = _; simp
  | k + 1, j => by
    rw [QW, KT, QM, List.foldl_nil]
    unfold isW at *
    split
    · rename_i h
      rw [Ur, zpe x k j, j4]
      by_cases e : j = k
      · subst e
        simp [h, isW]
      · rw [Uh e, Ux]
        unfold isW
        congr 1
        exact QG.2 (by omega)
    · rename_i h
      rw [zpe x k j]
      unfold isW
      by_cases e : j = k
      · subst e
        rw [Uh h, Ui, Ui]
      · congr 1
        exact QG.2 (by omega)
theorem zlP (x : ExD) (j : Nat) : (zaS x).testBit j = (decide (j < x.ev.length) && isW x j) := zpe x _ j
theorem zsW (h : x.ev.length ≤ 48) : zaS x < 2 ^ 64 := by
  refine Qz fun hge => ?_
  obtain ⟨j, hj1, hj2⟩ := Ja hge
  rw [zlP, Qh, decide_eq_true_eq] at hj2
  omega
structure DepOne (x : ExD) (k : Nat) : Prop where
  w : ∀ j, zh x.dt k j = true ∨ zh x.rm k j = true → isW x j = true
  p : ∀ j, zh x.dt k j = true ∨ zh x.ct k j = true ∨ zh x.rm k j = true → isR x k = true ∧ zh x.po k j = true
  u : ∀ i j, zh x.rm k i = true → zh x.rm k j = true → i = j
  l : ∀ j, zh x.rm k j = true → (evA x j).l = (evA x k).l
theorem zlm (h48 : x.ev.length ≤ 48) (hpo : RelOk x.ev.length x.po) (hdt : RelOk x.ev.length x.dt) (hct : RelOk x.ev.length x.ct) (hrm : RelOk x.ev.length x.rm) : ∀ (m i h : Nat), i + m = x.ev.length →
    (zcA x (zaS x) i (x.ev.drop i) h = true ↔ (∀ k, i ≤ k → k < x.ev.length → DepOne x k) ∧ (∀ k j, i ≤ k → k < x.ev.length → zh x.rm k j = true → h.testBit j = false) ∧ ∀ k k' j, i ≤ k → k < k' → k' < x.ev.length → zh x.rm k j = true → zh x.rm k' j = true → False)
  | 0, i, h, hi => by
    rw [JC (by omega)]
    exact ⟨fun _ => ⟨fun k h1 h2 => by omega, fun k j h1 h2 => by omega, fun k k' j h1 h2 h3 => by omega⟩, fun _ => rfl⟩
  | m + 1, i, h, hi => by
    have hil : i < x.ev.length := by omega
    have hd : x.ev.drop i = evA x i :: x.ev.drop (i + 1) := by
      unfold evA
      rw [Jm, Jv hil, ← JF hil]; rfl
    rw [hd]
    obtain ⟨d, hdd⟩ : ∃ d, d = x.dt.to i := ⟨_, rfl⟩
    obtain ⟨c, hcc⟩ : ∃ c, c = x.ct.to i := ⟨_, rfl⟩
    obtain ⟨r, hrr⟩ : ∃ r, r = x.rm.to i := ⟨_, rfl⟩
    have bd : ∀ j, d.testBit j = zh x.dt i j := fun j => by rw [hdd]; rfl
    have bc : ∀ j, c.testBit j = zh x.ct i j := fun j => by rw [hcc]; rfl
    have br : ∀ j, r.testBit j = zh x.rm i j := fun j => by rw [hrr]; rfl
    have d64 : d < 2 ^ 64 := by rw [hdd]; exact hdt.w i (by omega)
    have c64 : c < 2 ^ 64 := by rw [hcc]; exact hct.w i (by omega)
    have r64 : r < 2 ^ 64 := by rw [hrr]; exact hrm.w i (by omega)
    have hstep : zcA x (zaS x) i (evA x i :: x.ev.drop (i + 1)) h = if d ||| c ||| r = 0 then zcA x (zaS x) (i + 1) (x.ev.drop (i + 1)) h
        else if (evA x i).k = 1 ∧ jD (d ||| r) (zaS x) = 0 ∧ jD (d ||| c ||| r) (x.po.to i) = 0 then
          (if r = 0 then zcA x (zaS x) (i + 1) (x.ev.drop (i + 1)) h
           else if r = 2 ^ ctz r ∧ h.testBit (ctz r) = false ∧ (evA x (ctz r)).l = (evA x i).l then zcA x (zaS x) (i + 1) (x.ev.drop (i + 1)) (h ||| r) else false)
        else false := by rw [hdd, hcc, hrr]; rfl
    rw [hstep]
    have sp : ∀ (P : Nat → Prop), (∀ k, i ≤ k → k < x.ev.length → P k) ↔ P i ∧ ∀ k, i + 1 ≤ k → k < x.ev.length → P k := fun P =>
      ⟨fun h => ⟨h i (UY _) hil, fun k h1 h2 => h k (by omega) h2⟩, fun h k h1 h2 => by
        by_cases hk : k = i
        · rw [hk]; exact h.1
        · exact h.2 k (by omega) h2⟩
    have one : DepOne x i ↔ (d ||| c ||| r = 0 ∨ ((evA x i).k = 1 ∧ jD (d ||| r) (zaS x) = 0 ∧ jD (d ||| c ||| r) (x.po.to i) = 0)) ∧ (∀ a b, r.testBit a = true → r.testBit b = true → a = b) ∧ (∀ j, r.testBit j = true → (evA x j).l = (evA x i).l) := by
      have inl : ∀ j, zh x.dt i j = true ∨ zh x.rm i j = true → j < x.ev.length := fun j hj => by
        rcases hj with hj | hj
        · exact (hdt.bit (by omega) hj).2
        · exact (hrm.bit (by omega) hj).2
      constructor
      · rintro ⟨w, p, u, l⟩
        refine ⟨?_, fun a b ha hb => u a b (by rw [← br]; exact ha) (by rw [← br]; exact hb), fun j hj => l j (by rw [← br]; exact hj)⟩
        by_cases h0 : d ||| c ||| r = 0
        · exact .inl h0
        · obtain ⟨j, hj⟩ := zhZ h0
          have hor : ∀ j, (d ||| c ||| r).testBit j = true → zh x.dt i j = true ∨ zh x.ct i j = true ∨ zh x.rm i j = true := fun j hj => by
            rw [Ur, Ur, bd, bc, br, QH, QH] at hj
            rcases hj with (hj | hj) | hj
            · exact .inl hj
            · exact .inr (.inl hj)
            · exact .inr (.inr hj)
          refine .inr ⟨Qc (p j (hor j hj)).1, (zdJ (KY d64 r64) (zsW h48)).2 fun j hj => ?_, (zdJ (KY (KY d64 c64) r64) (hpo.w i (by omega))).2 fun j hj => (p j (hor j hj)).2⟩
          rw [Ur, bd, br, QH] at hj
          rw [zlP, w j hj, Us (inl j hj)]; rfl
      · rintro ⟨h1, u, l⟩
        have bits : ∀ j, zh x.dt i j = true ∨ zh x.ct i j = true ∨ zh x.rm i j = true → (d ||| c ||| r).testBit j = true := fun j hj => by
          rw [Ur, Ur, bd, bc, br]
          rcases hj with hj | hj | hj <;> rw [hj] <;> simp
        have nz : ∀ j, zh x.dt i j = true ∨ zh x.ct i j = true ∨ zh x.rm i j = true → (evA x i).k = 1 ∧ jD (d ||| r) (zaS x) = 0 ∧ jD (d ||| c ||| r) (x.po.to i) = 0 := fun j hj => by
          rcases h1 with h1 | h1
          · have := bits j hj
            rw [h1, QD] at this
            cases this
          · exact h1
        refine ⟨fun j hj => ?_, fun j hj => ?_, fun a b ha hb => u a b (by rw [br]; exact ha) (by rw [br]; exact hb), fun j hj => l j (by rw [br]; exact hj)⟩
        · have h2 := (nz j (by rcases hj with hj | hj; exact .inl hj; exact .inr (.inr hj))).2.1
          have h3 := (zdJ (KY d64 r64) (zsW h48)).1 h2 j (by
            rw [Ur, bd, br]
            rcases hj with hj | hj <;> rw [hj] <;> simp)
          rw [zlP, Qh] at h3
          exact h3.2
        · have h2 := nz j hj
          exact ⟨Us h2.1, (zdJ (KY (KY d64 c64) r64) (hpo.w i (by omega))).1 h2.2.2 j (bits j hj)⟩
    have hr0 : d ||| c ||| r = 0 → r = 0 := fun h0 => Kc fun j => by
      have := Gl (fun s => s.testBit j) h0
      simp only [Ur, QD, Bool.or_eq_false_iff] at this
      rw [QD]; exact this.2
    have qp : ∀ h2, (∀ k j, i + 1 ≤ k → k < x.ev.length → zh x.rm k j = true → (h2.testBit j = false ↔ h.testBit j = false ∧ r.testBit j = false)) → (∀ j, r.testBit j = true → h.testBit j = false) → DepOne x i →
        ((zcA x (zaS x) (i + 1) (x.ev.drop (i + 1)) h2 = true) ↔ (∀ k, i ≤ k → k < x.ev.length → DepOne x k) ∧ (∀ k j, i ≤ k → k < x.ev.length → zh x.rm k j = true → h.testBit j = false) ∧ ∀ k k' j, i ≤ k → k < k' → k' < x.ev.length → zh x.rm k j = true → zh x.rm k' j = true → False) := fun h2 hh hf hi1 => by
      rw [zlm h48 hpo hdt hct hrm m (i + 1) h2 (by omega), sp (DepOne x)]
      constructor
      · rintro ⟨a1, a2, a3⟩
        refine ⟨⟨hi1, a1⟩, fun k j k1 k2 k3 => ?_, fun k k' j k1 k2 k3 k4 k5 => ?_⟩
        · by_cases hk : k = i
          · subst hk
            exact hf j (by rw [br]; exact k3)
          · exact ((hh k j (by omega) k2 k3).1 (a2 k j (by omega) k2 k3)).1
        · by_cases hk : k = i
          · subst hk
            have := ((hh k' j (by omega) k3 k5).1 (a2 k' j (by omega) k3 k5)).2
            rw [br, k4] at this
            cases this
          · exact a3 k k' j (by omega) k2 k3 k4 k5
      · rintro ⟨a1, a2, a3⟩
        refine ⟨a1.2, fun k j k1 k2 k3 => (hh k j k1 k2 k3).2 ⟨a2 k j (by omega) k2 k3, ?_⟩, fun k k' j k1 k2 k3 k4 k5 => a3 k k' j (by omega) k2 k3 k4 k5⟩
        cases hb : r.testBit j with
        | false => rfl
        | true => exact (a3 i k j (UY _) (by omega) k2 (by rw [← br]; exact hb) k3).elim
    by_cases h0 : d ||| c ||| r = 0
    · rw [Gr h0]
      have r0 := hr0 h0
      refine qp h (fun k j _ _ _ => ?_) (fun j hj => ?_) (one.2 ⟨.inl h0, fun a b ha => ?_, fun j hj => ?_⟩)
      · rw [r0, QD]; simp
      · rw [r0, QD] at hj; cases hj
      · rw [r0, QD] at ha; cases ha
      · rw [r0, QD] at hj; cases hj
    rw [Gq h0]
    by_cases hc2 : (evA x i).k = 1 ∧ jD (d ||| r) (zaS x) = 0 ∧ jD (d ||| c ||| r) (x.po.to i) = 0
    · rw [Gr hc2]
      by_cases r0 : r = 0
      · rw [Gr r0]
        refine qp h (fun k j _ _ _ => ?_) (fun j hj => ?_) (one.2 ⟨.inr hc2, fun a b ha => ?_, fun j hj => ?_⟩)
        · rw [r0, QD]; simp
        · rw [r0, QD] at hj; cases hj
        · rw [r0, QD] at ha; cases ha
        · rw [r0, QD] at hj; cases hj
      · rw [Gq r0]
        by_cases hc3 : r = 2 ^ ctz r ∧ h.testBit (ctz r) = false ∧ (evA x (ctz r)).l = (evA x i).l
        · rw [Gr hc3]
          have bz : ∀ j, r.testBit j = true → j = ctz r := fun j hj => by
            rw [hc3.1, j4] at hj
            exact Qc hj
          refine qp (h ||| r) (fun k j _ _ _ => ?_) (fun j hj => ?_) (one.2 ⟨.inr hc2, fun a b ha hb => (bz a ha).trans (bz b hb).symm, fun j hj => ?_⟩)
          · rw [Ur, Bool.or_eq_false_iff]
          · rw [bz j hj]; exact hc3.2.1
          · rw [bz j hj]; exact hc3.2.2
        · rw [Gq hc3]
          refine ⟨fun h => (by cases h), fun hall => ?_⟩
          have ho := one.1 (hall.1 i (UY _) hil)
          obtain ⟨j, hj⟩ := zhZ r0
          have hz := (qJ.1 (zgC r0 r64)).2
          refine (hc3 ⟨Kc fun a => ?_, hall.2.1 i _ (UY _) hil (by rw [← br]; exact hz), ho.2.2 _ hz⟩).elim
          rw [j4]
          by_cases ha : a = ctz r
          · rw [ha, hz, Us rfl]
          · rw [Uh ha]
            cases hb : r.testBit a with
            | false => rfl
            | true => exact (ha (ho.2.1 a _ hb hz)).elim
    · rw [Gq hc2]
      refine ⟨fun h => (by cases h), fun hall => ?_⟩
      rcases (one.1 (hall.1 i (UY _) hil)).1 with h1 | h1
      · exact (h0 h1).elim
      · exact (hc2 h1).elim
end
def twl (s:List Nat) (i:Nat):List Nat:=s.takeWhile fun y => !decide (y=i)
theorem zbi (a:Nat) (s:List Nat) (i:Nat):twl (a::s) i=if a=i then [] else a::twl s i:=by
 unfold twl;rw [Kn];by_cases h:a=i
 ·rw [Gr h,Gq (by simp [h])]
 ·rw [Gq h,Gr (by simp [h])]
theorem zgp:∀ {s:List Nat} {i j:Nat},j∈twl s i->j∈s/\j≠i
 | [],i,j,h=>by cases h
 | a::s,i,j,h=>by
  rw [zbi] at h;by_cases ha:a=i
  ·rw [Gr ha] at h;cases h
  ·rw [Gq ha] at h;rcases UD.1 h with rfl | h
   ·exact⟨Kz,ha⟩
   ·exact⟨JY _ (zgp h).1,(zgp h).2⟩
theorem zfj:∀ {s:List Nat} {i j:Nat},i∈s->j∈s->i≠j->(j∈twl s i↔¬ i∈twl s j)
 | [],i,j,h,_,_=>by cases h
 | a::s,i,j,hi,hj,hij=>by
  rw [zbi,zbi];by_cases h1:a=i
  ·rw [Gr h1,Gq (fun h=>hij (h1.symm.trans h))];exact⟨fun h=>(by cases h),fun h=>(h (by rw [h1];exact Kz)).elim⟩
  ·by_cases h2:a=j
   ·rw [Gq h1,Gr h2];exact⟨fun _ h=>(by cases h),fun _=>by rw [h2];exact Kz⟩
   ·rw [Gq h1,Gq h2,UD,UD];have hi2:i∈s:=(by rcases UD.1 hi with h | h;exact (h1 h.symm).elim;exact h);have hj2:j∈s:=(by rcases UD.1 hj with h | h;exact (h2 h.symm).elim;exact h);have:=zfj hi2 hj2 hij;constructor
    ·rintro (h | h) (h' | h')
     ·exact h2 h.symm
     ·exact h2 h.symm
     ·exact h1 h'.symm
     ·exact this.1 h h'
    ·intro h;exact .inr (this.2 fun h'=>h (.inr h'))
theorem zin:∀ {s:List Nat} {i j k:Nat},j∈twl s i->k∈twl s j->k∈twl s i
 | [],i,j,k,h,_=>by cases h
 | a::s,i,j,k,h1,h2=>by
  rw [zbi] at h1 h2 ⊢;by_cases ha:a=i
  ·rw [Gr ha] at h1;cases h1
  ·rw [Gq ha] at h1 ⊢;by_cases hb:a=j
   ·rw [Gr hb] at h2;cases h2
   ·rw [Gq hb] at h2;rcases UD.1 h2 with rfl | h2
    ·exact Kz
    ·rcases UD.1 h1 with h1 | h1
     ·exact (hb h1.symm).elim
     ·exact JY _ (zin h1 h2)
theorem zei:∀ (l:List Nat) (f:Nat->Nat) (b:Nat),l.Nodup->∀ i j,(zd5 l f b i).testBit j=if i∈l then (b.testBit j||decide (j∈twl l i)) else (f i).testBit j
 | [],f,b,_,i,j=>by rw [Gq Qv];rfl
 | a::l,f,b,hn,i,j=>by
  have hn2:=QV.1 hn;show (zd5 l (upd f a b) (b|||2^a) i).testBit j=_;rw [zei l _ _ hn2.2,zbi];by_cases hia:i=a
  ·subst hia;rw [Gq hn2.1,Gr Kz,zP,Gr rfl];simp
  ·rw [Gq (show ¬ a=i from fun e=>hia e.symm)];by_cases hi:i∈l
   ·rw [Gr hi,Gr (JY _ hi),Ur,j4,Bool.or_assoc];congr 1;rw [Bool.eq_iff_iff,QH,dE,dE,dE,UD]
   ·rw [Gq hi,Gq (fun h=>by rcases UD.1 h with h | h;exact hia h;exact hi h),qk _ _ hia]
theorem zhA {key:Nat->Nat} {y:Nat}:∀ {r:List Nat},r.Pairwise (fun a b=>key a<=key b)->(jh key r y).Pairwise (fun a b=>key a<=key b)
 | [],_=>List.pairwise_singleton _ _
 | z::r,h=>by
  have h2:=List.pairwise_cons.1 h;unfold jh
  split
  ·rename_i hlt;refine List.pairwise_cons.2 ⟨fun a ha=>?_,zhA h2.2⟩;rcases (zel r).1 ha with rfl | ha
   ·omega
   ·exact h2.1 a ha
  ·rename_i hlt;refine List.pairwise_cons.2 ⟨fun a ha=>?_,h⟩;rcases UD.1 ha with rfl | ha
   ·omega
   ·have:=h2.1 a ha;omega
theorem zmZ {key:Nat->Nat}:∀ (l acc:List Nat),acc.Pairwise (fun a b=>key a<=key b)->(l.foldl (fun acc x=>jh key acc x) acc).Pairwise (fun a b=>key a<=key b)
 | [],_,h=>h
 | y::l,acc,h=>zmZ l _ (zhA h)
theorem zjd (key:Nat->Nat) (l:List Nat):(zcq key l).Pairwise (fun a b=>key a<=key b):=zmZ l [] .nil
theorem zaL {key:Nat->Nat} {l:List Nat} {a:Nat}:a∈zcq key l↔a∈l:=by
 have:a∈(zcq key l).reverse↔a∈l:=zfl
 rwa [List.mem_reverse] at this
theorem zfV {key:Nat->Nat}:∀ {s:List Nat},s.Pairwise (fun a b=>key a<=key b)->s.Nodup->(∀ a b,a∈s->b∈s->a≠b->key a≠key b)->s.Pairwise (fun a b=>key a<key b)
 | [],_,_,_ => .nil
 | a::s,h,hn,hi=>by
  have h2:=List.pairwise_cons.1 h;have hn2:=QV.1 hn;refine List.pairwise_cons.2 ⟨fun b hb=>?_,zfV h2.2 hn2.2 fun c d hc hd=>hi c d (JY _ hc) (JY _ hd)⟩;have h3:=h2.1 b hb;have h4:=hi a b Kz (JY _ hb) (fun e=>hn2.1 (by rw [e];exact hb));omega
theorem znR {f g:Nat->Bool}:∀ {n:Nat},(∀ i,i<n->f i=true->g i=true->False)->zd1 f n+zd1 g n=zd1 (fun i=>f i||g i) n
 | 0,_=>rfl
 | n+1,h=>by
  have ih:=znR (f:=f) (g:=g) (n:=n) fun i hi=>h i (by omega);have:=h n (QA _);rw [zcB,zcB,zcB,<- ih]
  cases hf:f n <;> cases hg:g n <;> simp [hf,hg] at this ⊢ <;> omega
theorem zqM {a:Nat}:∀ {n:Nat},a<n->zd1 (fun b=>decide (b=a)) n=1
 | 0,h=>Gs h (Ub _)
 | n+1,h=>by
  rw [zcB];by_cases e:n=a
  ·subst e;rw [Gr (Us rfl),zqL fun k hk=>Uh (by omega)]
  ·rw [Gq (by simp [e]),zqM (by omega)]
theorem zlv {f g:Nat->Bool}:∀ {n:Nat},(∀ i,i<n->f i=true->g i=true)->zd1 f n<=zd1 g n
 | 0,_=>UY _
 | n+1,h=>by
  have ih:=zlv (f:=f) (g:=g) (n:=n) fun i hi=>h i (by omega);have:=h n (QA _);rw [zcB,zcB]
  cases hf:f n <;> cases hg:g n <;> simp [hf,hg] at this ⊢ <;> omega
theorem zhV {f g:Nat->Bool} {n j:Nat} (h:∀ i,i<n->f i=true->g i=true) (hj:j<n) (h1:f j=false) (h2:g j=true):zd1 f n<zd1 g n:=by
 have e:=znR (f:=f) (g:=fun b=>decide (b=j)) (n:=n) fun i hi hf hd=>by
  have:i=j:=dT hd;rw [this,h1] at hf;cases hf
 rw [zqM hj] at e;have:=zlv (f:=fun i=>f i||decide (i=j)) (g:=g) (n:=n) fun i hi hor=>by
  rw [QH,dE] at hor;rcases hor with h3 | h3
  ·exact h i hi h3
  ·rw [h3];exact h2
 omega
theorem zk3 (s:Nat):zbP s=zd1 (fun j=>s.testBit j) 64:=rfl
section
variable {x:ExD}
abbrev sG (x:ExD) (l:Nat):List Nat:=zcq (zbR x) (zY x l)
theorem zkn (l:Nat):(sG x l).Nodup:=by
 have:=zg1 (x:=x) l;exact (List.reverse_perm _).nodup_iff.1 this
theorem zeJ (l:Nat):zN x l=(sG x l).reverse:=rfl
theorem zaW {l a:Nat}:a∈zY x l↔a<x.ev.length/\isW x a=true/\(evA x a).l.toNat=l:=by
 unfold zY isW;rw [QT,Uo,bAT,dE,dE]
def zfq (x:ExD):Nat->Nat->RelD×(Nat->UInt8)->RelD×(Nat->UInt8)
 | 0,_,p=>p
 | m+1,l,p=>zfq x m (l+1) (j7 (zN x l) p.1,upd p.2 l (zbQ x.ev (zN x l)))
theorem ze7:∀ (m l:Nat) (p q:RelD×(Nat->UInt8)),ze8 x m l p=some q↔(∀ k,l<=k->k<l+m->(zN x k).headD 48=k)/\q=zfq x m l p
 | 0,l,p,q=>⟨fun h=>⟨fun k h1 h2=>by omega,(Uf h).symm⟩,fun h=>by rw [h.2];rfl⟩
 | m+1,l,p,q=>by
  unfold ze8;by_cases hd:(zN x l).headD 48=l
  ·rw [Gr hd,ze7 m (l+1)];refine⟨fun h=>⟨fun k h1 h2=>?_,h.2⟩,fun h=>⟨fun k h1 h2=>h.1 k (by omega) (by omega),h.2⟩⟩;by_cases hk:k=l
   ·rw [hk];exact hd
   ·exact h.1 k (by omega) (by omega)
  ·rw [Gq hd];exact⟨fun h=>(by cases h),fun h=>(hd (h.1 l (UY _) (by omega))).elim⟩
theorem zqc {l:Nat} {r:RelD} {i j:Nat}:zh (j7 (zN x l) r) i j=if i∈zY x l then decide (j∈twl (sG x l) i) else zh r i j:=by
 unfold zh j7;rw [zeJ,Kb];show (zd5 (sG x l) r.to 0 i).testBit j=_;rw [zei _ _ _ (zkn l),QD,Uv];by_cases h:i∈zY x l
 ·rw [Gr h,Gr (zaL.2 h)]
 ·rw [Gq h,Gq (fun h2=>h (zaL.1 h2))]
theorem zkz:∀ (m l:Nat) (p:RelD×(Nat->UInt8)),(zfq x m l p).1.n=p.1.n/\(∀ i j,zh (zfq x m l p).1 i j=true↔(∃ k,l<=k/\k<l+m/\i∈zY x k/\j∈twl (sG x k) i)\/((∀ k,l<=k->k<l+m->i ∉ zY x k)/\zh p.1 i j=true)) /\
  ∀ k,(zfq x m l p).2 k=if l<=k/\k<l+m then zbQ x.ev (zN x k) else p.2 k
 | 0,l,p=>⟨rfl,fun i j=>⟨fun h => .inr ⟨fun k h1 h2=>by omega,h⟩,fun h=>by
   rcases h with ⟨k,h1,h2,_⟩ | h
   ·omega
   ·exact h.2⟩,fun k=>(Gq (by omega)).symm⟩
 | m+1,l,p=>by
  obtain⟨h1,h2,h3⟩:=zkz m (l+1) (j7 (zN x l) p.1,upd p.2 l (zbQ x.ev (zN x l)));refine⟨h1,fun i j=>?_,fun k=>?_⟩
  ·show zh (zfq x m (l+1) _).1 i j=true↔_;rw [h2,zqc];have uniq:∀ {k k'},i∈zY x k->i∈zY x k'->k=k':=fun a b=>(zaW.1 a).2.2.symm.trans (zaW.1 b).2.2;constructor
   ·rintro (⟨k,a1,a2,a3,a4⟩ | ⟨a1,a2⟩)
    ·exact .inl ⟨k,by omega,by omega,a3,a4⟩
    ·by_cases hi:i∈zY x l
     ·rw [Gr hi] at a2;exact .inl ⟨l,UY _,by omega,hi,dT a2⟩
     ·rw [Gq hi] at a2;refine .inr ⟨fun k b1 b2=>?_,a2⟩;by_cases hk:k=l
      ·rw [hk];exact hi
      ·exact a1 k (by omega) (by omega)
   ·rintro (⟨k,a1,a2,a3,a4⟩ | ⟨a1,a2⟩)
    ·by_cases hk:k=l
     ·subst hk;refine .inr ⟨fun k' b1 b2 b3=>?_,by rw [Gr a3];exact Us a4⟩;have:=uniq a3 b3;omega
     ·exact .inl ⟨k,by omega,by omega,a3,a4⟩
    ·exact .inr ⟨fun k b1 b2=>a1 k (by omega) (by omega),by rw [Gq (a1 l (UY _) (by omega))];exact a2⟩
  ·show (zfq x m (l+1) _).2 k=_;rw [h3];by_cases hk:l+1<=k/\k<l+1+m
   ·rw [Gr hk,Gr (by omega)]
   ·rw [Gq hk];by_cases hkl:k=l
    ·subst hkl;rw [Gr (by omega)];show upd p.2 k _ k=_;exact zP _ _ _
    ·rw [Gq (by omega)];exact qk _ _ hkl
theorem zf9 (hco:RelOk x.ev.length x.co) {locs:Nat}:j6 x locs=true↔(∀ k,k<locs->(zN x k).headD 48=k)/\(∀ i j,i<48->(zh x.co i j=true↔∃ k,k<locs/\i∈zY x k/\j∈twl (sG x k) i))/\∀ k,k<6->x.mem k=if k<locs then zbQ x.ev (zN x k) else 0:=by
 obtain⟨p0,hp0⟩:∃ p0:RelD×(Nat->UInt8),p0=(⟨x.ev.length,fun _=>0⟩,fun _=>0):=⟨_,rfl⟩;obtain⟨r1,r2,r3⟩:=zkz (x:=x) locs 0 p0;have z:∀ i j,zh p0.1 i j=false:=fun i j=>by rw [hp0];exact QD _
 have r2':∀ i j,zh (zfq x locs 0 p0).1 i j=true↔∃ k,k<locs/\i∈zY x k/\j∈twl (sG x k) i:=fun i j=>by
  rw [r2];constructor
  ·rintro (⟨k,_,h2,h3⟩ | ⟨_,h⟩)
   ·exact⟨k,by omega,h3⟩
   ·rw [z] at h;cases h
  ·rintro⟨k,h2,h3⟩;exact .inl ⟨k,Gb _,by omega,h3⟩
 have r3':∀ k,(zfq x locs 0 p0).2 k=if k<locs then zbQ x.ev (zN x k) else 0:=fun k=>by
  rw [r3];by_cases hk:k<locs
  ·rw [Gr (by omega),Gr hk]
  ·rw [Gq (by omega),Gq hk,hp0]
 have e:j6 x locs=match ze8 x locs 0 p0 with
  | none=>false
  | some p=>jl p.1 x.co&&(List.range 6).all fun l=>decide (p.2 l=x.mem l):=by rw [hp0];rfl
 rw [e];by_cases hd:∀ k,k<locs->(zN x k).headD 48=k
 ·rw [(ze7 locs 0 p0 (zfq x locs 0 p0)).2 ⟨fun k _ h=>hd k (by omega),rfl⟩];dsimp only;rw [bAT,Qj];constructor
  ·rintro⟨h1,h2⟩;refine⟨hd,fun i j hi=>?_,fun k hk=>?_⟩
   ·rw [<- zfs h1 hi];exact r2' i j
   ·rw [<- r3'];exact (dT (h2 k (Uo.2 hk))).symm
  ·rintro⟨_,h2,h3⟩;refine⟨?_,fun k hk=>Us (by rw [r3'];exact (h3 k (Uo.1 hk)).symm)⟩;unfold jl;rw [bAT,dE,Qj];refine⟨by rw [r1,hp0];exact hco.n.symm,fun i hi=>Us (Kc fun j=>?_)⟩;have:=(r2' i j).trans (h2 i j (Uo.1 hi)).symm;exact Bool.eq_iff_iff.2 this
 ·cases hg:ze8 x locs 0 p0 with
  | none=>exact⟨fun h=>(by cases h),fun h=>(hd h.1).elim⟩
  | some q=>exact (hd fun k hk=>((ze7 locs 0 p0 q).1 hg).1 k (Gb _) (by omega)).elim
end
def fct:Nat->Nat
 | 0=>1
 | n+1=>(n+1)*fct n
theorem zdO:∀ n,1<=fct n
 | 0=>UY _
 | n+1=>Nat.mul_pos (Nat.succ_pos n) (zdO n)
theorem zhK {a b:Nat} (h:a<=b):fct a<=fct b:=by
 induction b with
 | zero=>rw [Nat.le_zero.1 h];exact UY _
 | succ b ih =>
  rcases Nat.lt_or_ge b a with h1 | h1
  ·rw [show a=b+1 by omega];exact UY _
  ·refine UO (ih h1) ?_;show fct b<=(b+1)*fct b;exact Nat.le_mul_of_pos_left _ (Nat.succ_pos b)
theorem zdP (s:Nat):(els s).Nodup:=by
 unfold els;exact List.Pairwise.filter _ List.nodup_range
theorem ze1 (before:Nat->Nat):∀ (n left:Nat) (l x:List Nat),left<2^64->x∈zao before n left l->∃ s,x=l++s/\s.Perm (els left)/\∀ a t,s=a::t->before a&&&left=0
 | 0,left,l,x,hl,h=>by
  unfold zao at h
  split at h
  ·rename_i h0;rw [KA] at h;exact⟨[],by rw [h,QK],by rw [h0,jP],fun a t e=>by cases e⟩
  ·cases h
 | n+1,left,l,x,hl,h=>by
  unfold zao at h
  split at h
  ·rename_i h0;rw [KA] at h;exact⟨[],by rw [h,QK],by rw [h0,jP],fun a t e=>by cases e⟩
  ·obtain⟨a,ha,h⟩:=List.mem_flatMap.1 h
   split at h
   ·rename_i hb;obtain⟨s,hs,hp,_⟩:=ze1 before n _ _ x (zah hl) h;rw [zcz hl ha] at hp;refine⟨a::s,by rw [hs,KO];rfl,?_,fun b t e=>by cases e;exact hb⟩;refine (List.Perm.cons a hp).trans ?_;have hn:=zdP left;generalize els left=L at ha hn;clear hp hs h hl
    induction L with
    | nil=>cases ha
    | cons y r ih =>
     have hn2:=QV.1 hn;rcases UD.1 ha with e | e
     ·subst e;rw [Qn,Gq (by simp),List.filter_eq_self.2 fun z hz=>by
       have:z≠a:=fun e=>hn2.1 (by rw [<- e];exact hz);simp [this]]
     ·have hya:y≠a:=fun e2=>hn2.1 (by rw [e2];exact e);rw [Qn,Gr (by simp [hya])];exact (List.Perm.swap y a _).trans (List.Perm.cons y (ih e hn2.2))
   ·cases h
theorem znz {α β:Type} {f:α->List β} {b:Nat}:∀ {l:List α},(∀ a∈l,(f a).length<=b)->(l.flatMap f).length<=l.length*b
 | [],_=>by simp
 | a::l,h=>by
  rw [KS,lap,Qs,Nat.succ_mul];have:=h a Kz;have:=znz (l:=l) fun x hx=>h x (JY _ hx);omega
theorem ziU (before:Nat->Nat):∀ (n left:Nat) (l:List Nat),left<2^64->(zao before n left l).length<=fct (els left).length
 | 0,left,l,hl=>by
  unfold zao
  split
  ·exact zdO _
  ·exact Gb _
 | n+1,left,l,hl=>by
  unfold zao
  split
  ·exact zdO _
  ·have hne:(els left).length=0\/∃ m,(els left).length=m+1:=by
    cases (els left).length with
    | zero=>exact .inl rfl
    | succ m=>exact .inr ⟨m,rfl⟩
   rcases hne with h0 | ⟨m,hm⟩
   ·rw [List.length_eq_zero_iff.1 h0];exact Gb _
   ·rw [hm];refine UO (znz (b:=fct m) fun a ha=>?_) (by rw [hm];exact UY _)
    split
    ·refine UO (ziU before n _ _ (zah hl)) (zhK ?_);have:=zap hl ha;rw [zaX];omega
    ·exact Gb _
theorem zcy {f:Nat->List (List Nat)}:∀ {l:List Nat},l.Nodup->(∀ a∈l,a≠0->f a=[])->(l.flatMap f).length<=(f 0).length
 | [],_,_=>Gb _
 | a::l,hn,h=>by
  have hn2:=QV.1 hn;rw [KS,lap];by_cases e:a=0
  ·subst e;have:l.flatMap f=[]:=List.flatMap_eq_nil_iff.2 fun x hx=>h x (JY _ hx) fun e=>hn2.1 (by rw [<- e];exact hx);rw [this];exact UY _
  ·rw [h a Kz e];have:=zcy hn2.2 fun x hx=>h x (JY _ hx);simpa using this
section
variable {n:Nat}
theorem zjO (hn:n<=48):RelOk n (crs n):=⟨rfl,zqH n hn,fun i hi=>znN n i hi⟩
theorem zlp (hn:n<=48) {a:Nat} (ha:a<n) (h0:a≠0):((zQ (crs n)).to a).testBit 0=true:=by
 have h:=jU (zjO hn) (i:=a) (j:=0) (by omega);unfold zh at h;rw [h,Us (by omega),Uy];show (if 0<n then (if Nat.testBit 1 0 then jD (jV n) 1&&&jV n else 0) else 0).testBit a=true;rw [Gr (by omega),Gr (by decide),Uc];have hb:(jV n).testBit a=true:=by
  rw [zaI,zbn (by omega) (by omega) (by omega)];exact Us (by omega)
 rw [hb,Bool.and_true,zaX];have:qG (jV n) 1=qG (jV n) (2^0):=rfl;rw [this,zaP (by decide) (by omega),hb,Ko];simp;omega
theorem zhf (h1:1<=n) (hn:n<=48) {o:List Nat} (h:o∈zbr (crs n)):o.Perm (List.range n)/\∃ t,o=0::t:=by
 unfold zbr at h
 split at h
 ·obtain⟨s,hs,hp,hf⟩:=ze1 _ _ _ _ _ (zdV n) h;rw [QU] at hs;subst hs;have e:els (jV ((n:Nat):Int))=List.range n:=by rw [zaI];exact zcX (by omega)
  have hp:o.Perm (List.range n):=by rw [<- e];exact hp
  refine⟨hp,?_⟩
  cases o with
  | nil=>have:=hp.length_eq;simp at this;omega
  | cons a t =>
   by_cases h0:a=0
   ·exact⟨t,by rw [h0]⟩
   ·have ha:a<n:=Uo.1 (hp.subset Kz);have h2:=hf a t rfl;have h3:=zlp hn ha h0;have h4:(jV ((n:Nat):Int)).testBit 0=true:=by
     rw [zaI,zbn (by omega) (by omega) (by omega)];exact Us (by omega)
    have h5:((zQ (crs n)).to a&&&jV ((n:Nat):Int)).testBit 0=true:=(by rw [Uc,h3,h4];rfl);have h6:((zQ (crs n)).to a&&&jV ((n:Nat):Int))=0:=h2;rw [h6] at h5;simp at h5
 ·cases h
theorem ziE (h1:1<=n) (hn:n<=48):(zbr (crs n)).length<=fct (n-1):=by
 unfold zbr
 split
 ·have e:els (jV ((n:Nat):Int))=List.range n:=by rw [zaI];exact zcX (by omega)
  have e0:(0:Nat)∈els (jV ((n:Nat):Int)):=by rw [e];exact Uo.2 (by omega)
  show (zao (zQ (crs n)).to 64 (jV ((n:Nat):Int)) []).length<=_;unfold zao
  split
  ·exact zdO _
  ·refine UO (zcy (zdP _) fun a ha h0=>?_) ?_
   ·have ha:a<n:=(by rw [e] at ha;exact Uo.1 ha);refine Gq fun h2=>?_;have h3:=zlp hn ha h0;have h4:(jV ((n:Nat):Int)).testBit 0=true:=by
     rw [zaI,zbn (by omega) (by omega) (by omega)];exact Us (by omega)
    have h5:((zQ (crs n)).to a&&&jV ((n:Nat):Int)).testBit 0=true:=(by rw [Uc,h3,h4];rfl);rw [h2] at h5;simp at h5
   ·split
    ·refine UO (ziU _ _ _ _ (zah (zdV n))) (zhK ?_);have h6:=zap (zdV n) e0;rw [e,KV] at h6;rw [zaX];omega
    ·exact Gb _
 ·exact Gb _
end
theorem zoI (w:List Nat):(List.range w.length).map (fun k=>w.getD k 0)=w:=by
 apply KQ;intro i;rw [KU];by_cases h:i<w.length
 ·rw [Kh h,gE h];show some (w.getD i 0)=_;rw [gDe,gE h];rfl
 ·rw [JK (by simpa using h),JK (by simpa using h)];rfl
theorem ziy {w rk:List Nat} (h1:1<=w.length) (hn:w.length<=48) (h:rk∈zM w):rk.Perm w/\rk.headD 48=w.headD 48:=by
 unfold zM at h;dsimp only at h
 split at h
 ·obtain⟨o,ho,rfl⟩:=UL.1 h;obtain⟨hp,t,ht⟩:=zhf h1 hn ho;refine⟨?_,?_⟩
  ·have:=hp.map fun k=>w.getD k 0;rw [zoI] at this;exact this
  ·rw [ht];show w.getD 0 0=_
   cases w with
   | nil=>simp at h1
   | cons a r=>rfl
 ·cases h
theorem zg3 {w:List Nat} (h1:1<=w.length) (hn:w.length<=48):(zM w).length<=fct (w.length-1)/\(zM w).length<=10000:=by
 unfold zM;dsimp only
 split
 ·rename_i h;rw [QN];exact⟨ziE h1 hn,h⟩
 ·exact⟨Gb _,Gb _⟩
def zb6:List (List Nat)->Nat
 | []=>1
 | f::fs=>f.length*zb6 fs
theorem zgw {a b lim:Nat} (hb:1<=b):min (min a lim*b) lim=min (a*b) lim:=by
 by_cases ha:a<=lim
 ·rw [Ua ha]
 ·have e:min a lim=lim:=Nat.min_eq_right (by omega);have h2:lim<=lim*b:=Nat.le_mul_of_pos_right _ (by omega);have h3:lim<=a*b:=UO (by omega) (Nat.le_mul_of_pos_right a (by omega:0<b));rw [e,Nat.min_eq_right h2,Nat.min_eq_right h3]
theorem zfv:∀ fs:List (List Nat),(∀ f∈fs,f≠[])->1<=zb6 fs
 | [],_=>UY _
 | f::fs,h=>Nat.mul_pos (List.length_pos_iff.2 (h f Kz)) (zfv fs fun g hg=>h g (JY _ hg))
theorem zjQ {lim:Nat}:∀ (fs:List (List Nat)) (n:Nat),n<=lim->(∀ f∈fs,f≠[])->ze9 lim fs n=some (min (n*zb6 fs) lim)
 | [],n,h,_=>by
  show some n=some (min (n*1) lim);rw [UZ,Ua h]
 | f::fs,n,h,hf=>by
  have h1:f≠[]:=hf f Kz;have hp:1<=f.length:=List.length_pos_iff.2 h1;unfold ze9;rw [Gq h1,zjQ fs _ (QB ..) fun g hg=>hf g (JY _ hg)];congr 1;show min (min (n*f.length) lim*zb6 fs) lim=min (n*(f.length*zb6 fs)) lim;rw [<- UF,zgw (zfv fs fun g hg=>hf g (JY _ hg))]
theorem ziZ {lim:Nat}:∀ (fs:List (List Nat)) (n:Nat),(∃ f∈fs,f=[])->ze9 lim fs n=none
 | [],n,⟨f,h,_⟩=>by cases h
 | f::fs,n,⟨g,hg,e⟩=>by
  unfold ze9;by_cases h1:f=[]
  ·rw [Gr h1]
  ·rw [Gq h1];refine ziZ fs _ ⟨g,?_,e⟩;rcases UD.1 hg with h | h
   ·rw [h] at e;exact Gs e h1
   ·exact h
def up (len:Nat):Nat->Nat->Nat
 | 0,_=>1
 | m+1,k=>if k<len then k*up len m (k+1) else 1
theorem zpk (len:Nat):∀ m k,1<=k->1<=up len m k
 | 0,_,_=>UY _
 | m+1,k,h=>by
  unfold up
  split
  ·exact Nat.mul_pos h (zpk len m (k+1) (by omega))
  ·exact UY _
theorem znT {lim len:Nat}:∀ (m k n:Nat),1<=k->n<=lim->zgl lim len m k n=min (n*up len m k) lim
 | 0,k,n,_,h=>by
  show n=min (n*1) lim;rw [UZ,Ua h]
 | m+1,k,n,hk,h=>by
  unfold zgl up
  split
  ·rw [znT m (k+1) _ (by omega) (QB ..),zgw (zpk len m (k+1) (by omega)),UF]
  ·rw [UZ,Ua h]
theorem zpl:∀ (m k:Nat),1<=k->∀ len,len<=k+m->k<=len->fct (k-1)*up len m k=fct (len-1)
 | 0,k,h1,len,h2,h3=>by
  show fct (k-1)*1=_;rw [UZ,show len=k by omega]
 | m+1,k,h1,len,h2,h3=>by
  unfold up
  split
  ·rename_i hlt;rw [<- zpl m (k+1) (by omega) len (by omega) (by omega),<- UF];congr 1;obtain⟨j,rfl⟩:∃ j,k=j+1:=⟨k-1,by omega⟩;show fct j*(j+1)=(j+1)*fct j;exact UP _ _
  ·rw [UZ,show len=k by omega]
theorem zth {len:Nat} (h:1<=len):up len len 2=fct (len-1):=by
 by_cases h2:2<=len
 ·have:=zpl len 2 (by decide) len (by omega) h2;have h3:fct (2-1)=1:=rfl;rw [h3,Ga] at this;exact this
 ·have e:len=1:=by omega
  subst e;rfl
def zb5:List (List Nat)->Nat
 | []=>1
 | w::ws=>fct (w.length-1)*zb5 ws
theorem zcu:∀ ws,1<=zb5 ws
 | []=>UY _
 | w::ws=>Nat.mul_pos (zdO _) (zcu ws)
theorem znS {lim:Nat}:∀ (ws:List (List Nat)) (n:Nat),n<=lim->(∀ w∈ws,1<=w.length)->zgk lim ws n=min (n*zb5 ws) lim
 | [],n,h,_=>by
  show n=min (n*1) lim;rw [UZ,Ua h]
 | w::ws,n,h,hw=>by
  unfold zgk;rw [znT _ _ _ (by decide) h,zth (hw w Kz),znS ws _ (QB ..) fun v hv=>hw v (JY _ hv),zgw (zcu ws)];show _=min (n*(fct (w.length-1)*zb5 ws)) lim;rw [UF]
theorem zgE {m:MixD} {lim:Nat} (h1:1<=lim) (hw:∀ w∈m.wr,1<=w.length):jw m lim=if ∀ r∈m.rs,r.2≠[] then min (zb6 (m.rs.map (·.2))*zb5 m.wr) lim else 0:=by
 unfold jw
 split
 ·rename_i e;rw [Gq];intro h;rw [zjQ _ _ h1 fun f hf=>by
   obtain⟨r,hr,rfl⟩:=UL.1 hf;exact h r hr] at e
  cases e
 ·rename_i n e;by_cases h:∀ r∈m.rs,r.2≠[]
  ·rw [Gr h];rw [zjQ _ _ h1 fun f hf=>by
    obtain⟨r,hr,rfl⟩:=UL.1 hf;exact h r hr] at e
   have e:=Uf e;rw [znS _ _ (by rw [<- e];exact QB ..) hw,<- e,Ga,zgw (zcu _)]
  ·rw [ziZ] at e
   ·cases e
   ·refine Jp fun hn=>h fun r hr e2=>hn ⟨r.2,UL.2 ⟨r,hr,rfl⟩,e2⟩
theorem zdu {m:MixD} (hw:∀ w∈m.wr,1<=w.length):jw m 1≠0↔∀ r∈m.rs,r.2≠[]:=by
 rw [zgE (by decide) hw];constructor
 ·intro h;refine Jp fun hn=>h (Gq hn)
 ·intro h;rw [Gr h];have h1:1<=zb6 (m.rs.map (·.2)):=zfv _ fun f hf=>by
   obtain⟨r,hr,rfl⟩:=UL.1 hf;exact h r hr
  have h2:1<=zb6 (m.rs.map (·.2))*zb5 m.wr:=Nat.mul_pos h1 (zcu _);rw [Nat.min_eq_right h2];decide
theorem zo2 (m:MixD):(zdv m).length=z6 (zL m).reverse:=by
 unfold zdv qg;rw [QN,QN,KV]
theorem znf:∀ rs:List (Nat×List Nat),z6 (rs.map fun r=>r.2.length)=zb6 (rs.map (·.2))
 | []=>rfl
 | r::rs=>by
  show r.2.length*z6 (rs.map fun r=>r.2.length)=r.2.length*zb6 (rs.map (·.2));rw [znf rs]
theorem zne:∀ ws:List (List Nat),(∀ w∈ws,1<=w.length/\w.length<=48)->z6 (ws.map fun w=>(zM w).length)<=zb5 ws
 | [],_=>UY _
 | w::ws,h=>by
  show (zM w).length*z6 (ws.map fun w=>(zM w).length)<=fct (w.length-1)*zb5 ws;have h1:=h w Kz;exact Uq (zg3 h1.1 h1.2).1 (zne ws fun v hv=>h v (JY _ hv))
theorem zqQ {m:MixD} (hw:∀ w∈m.wr,1<=w.length/\w.length<=48) (h:jw m 20001<=20000):(qV m).length<=jw m 20001:=by
 unfold qV
 split
 ·exact Gb _
 ·rename_i h1;have hs:=(zdu fun w hm=>(hw w hm).1).1 h1;have e:=zgE (m:=m) (lim:=20001) (by decide) fun w hm=>(hw w hm).1;rw [Gr hs] at e;have hp:zb6 (m.rs.map (·.2))*zb5 m.wr=jw m 20001:=by
   by_cases hb:zb6 (m.rs.map (·.2))*zb5 m.wr<=20001
   ·rw [e,Ua hb]
   ·rw [Nat.min_eq_right (by omega)] at e;omega
  rw [zo2,<- hp];unfold zL;have e2:z6 (m.rs.map (fun r=>r.2.length)++m.wr.map fun w=>(zM w).length).reverse=z6 (m.rs.map (fun r=>r.2.length)++m.wr.map fun w=>(zM w).length):=by
   rw [zfw];unfold zbw;rw [zfG,Ga]
  rw [e2,zcv,znf];exact Nat.mul_le_mul_left _ (zne _ hw)
theorem zmu {m:MixD} (hw:∀ w∈m.wr,1<=w.length) {lim:Nat} (hl:1<=lim) (h:jw m lim<lim) (h1:jw m 1≠0):∀ w∈m.wr,fct (w.length-1)<lim:=by
 have hs:=(zdu hw).1 h1;have e:=zgE (m:=m) hl hw;rw [Gr hs] at e;have hp:zb6 (m.rs.map (·.2))*zb5 m.wr<lim:=by
  refine Qz fun hb=>?_;rw [Nat.min_eq_right hb] at e;omega
 have h2:1<=zb6 (m.rs.map (·.2)):=by
  refine Nat.one_le_iff_ne_zero.2 fun h0=>?_;rw [h0,UT,Nat.zero_min] at e;have e1:=zgE (m:=m) (lim:=1) (by decide) hw;rw [Gr hs,h0,UT,Nat.zero_min] at e1;exact h1 e1
 have h3:zb5 m.wr<lim:=KE (Nat.le_mul_of_pos_left _ (by omega)) hp;have:∀ ws:List (List Nat),∀ w∈ws,fct (w.length-1)<=zb5 ws:=by
  intro ws
  induction ws with
  | nil=>intro w h;cases h
  | cons v ws ih =>
   intro w h;show _<=fct (v.length-1)*zb5 ws;rcases UD.1 h with e | e
   ·rw [e];exact Nat.le_mul_of_pos_right _ (zcu ws)
   ·exact UO (ih w e) (Nat.le_mul_of_pos_left _ (zdO _))
 exact fun w hm=>KE (this _ w hm) h3
def zbY:Nat->List PathD->List Ev
 | _,[]=>[]
 | k,P::Ps=>j0 k P.ev++zbY (k+1) Ps
theorem zh1:∀ (Ps:List PathD) (k:Nat) (x:ExD),(asR k Ps x).ev=x.ev++zbY k Ps/\(asR k Ps x).po=x.po/\(asR k Ps x).rf=x.rf/\(asR k Ps x).co=x.co/\(asR k Ps x).mem=x.mem/\(asR k Ps x).dt.n=x.dt.n/\(asR k Ps x).ct.n=x.ct.n/\(asR k Ps x).rm.n=x.rm.n
 | [],k,x=>⟨(QK _).symm,rfl,rfl,rfl,rfl,rfl,rfl,rfl⟩
 | P::Ps,k,x=>by
  obtain⟨h1,h2⟩:=zh1 Ps (k+1) (zbu x k P);refine⟨?_,h2⟩;show (asR (k+1) Ps (zbu x k P)).ev=x.ev++(j0 k P.ev++zbY (k+1) Ps);rw [h1,<- KO];rfl
theorem zli:∀ (Ps:List PathD) (k n:Nat),Ps.foldl (fun n P=>n+P.ev.length) n=n+(zbY k Ps).length
 | [],k,n=>rfl
 | P::Ps,k,n=>by
  show Ps.foldl _ (n+P.ev.length)=n+(j0 k P.ev++zbY (k+1) Ps).length;rw [zli Ps (k+1),lap];unfold j0;rw [QN,UE]
theorem zhN:∀ (Ps:List PathD) (k:Nat) (e:Ev),e∈zbY k Ps->∃ P∈Ps,∃ a∈P.ev,∃ t:Nat,k<=t/\t<k+Ps.length/\e={ a with th:=t }
 | [],k,e,h=>by cases h
 | P::Ps,k,e,h=>by
  rcases QS.1 h with h | h
  ·obtain⟨a,ha,rfl⟩:=UL.1 h;exact⟨P,Kz,a,ha,k,UY _,by rw [Qs];omega,rfl⟩
  ·obtain⟨Q,hQ,a,ha,t,h1,h2,h3⟩:=zhN Ps (k+1) e h;exact⟨Q,JY _ hQ,a,ha,t,by omega,by rw [Qs];omega,h3⟩
section
variable {init:List UInt8} {Ps:List PathD}
theorem zcb:(j9 init Ps).ev=qI 0 init++zbY 0 Ps:=(zh1 Ps 0 _).1
theorem zqY:(j9 init Ps).ev.length=zbv init.length Ps:=by
 rw [zcb,lap,z8];exact (zli Ps 0 init.length).symm
theorem zcE:(j9 init Ps).rf=zc9 (zbv init.length Ps)/\(j9 init Ps).co=zc9 (zbv init.length Ps)/\(j9 init Ps).mem=(fun _=>0)/\(j9 init Ps).dt.n=zbv init.length Ps/\(j9 init Ps).ct.n=zbv init.length Ps/\(j9 init Ps).rm.n=zbv init.length Ps:=by
 obtain⟨_,_,h1,h2,h3,h4,h5,h6⟩:=zh1 Ps 0 { ex0 (zbv init.length Ps) with ev:=qI 0 init };exact⟨h1,h2,h3,h4,h5,h6⟩
theorem zo6 {i:Nat} (h:i<init.length):(j9 init Ps).ev[i]?=some ⟨-1,2,UInt8.ofNat i,init[i],0,0,0⟩:=by
 rw [zcb,Jr (by rw [z8];exact h),zbd init 0 h,US]
theorem zqX {e:Ev} (h:e∈(j9 init Ps).ev):(∃ i,∃ h:i<init.length,e=⟨-1,2,UInt8.ofNat i,init[i],0,0,0⟩)\/∃ P∈Ps,∃ a∈P.ev,∃ t:Nat,t<Ps.length/\e={ a with th:=t }:=by
 rw [zcb] at h;rcases QS.1 h with h | h
 ·obtain⟨i,hi,rfl⟩:=Ki h;rw [z8] at hi;have:=zbd init 0 hi;rw [gE (by rw [z8];exact hi),US] at this;exact .inl ⟨i,hi,Uf this⟩
 ·obtain⟨P,hP,a,ha,t,_,h2,h3⟩:=zhN Ps 0 e h;exact .inr ⟨P,hP,a,ha,t,by omega,h3⟩
theorem zcF (hi6:init.length<=6) (hP:∀ P∈Ps,PathW init.length P) {e:Ev} (h:e∈(j9 init Ps).ev) (hk:e.k=1\/e.k=2):e.l.toNat<init.length:=by
 rcases zqX h with ⟨i,hi,rfl⟩ | ⟨P,hPm,a,ha,t,_,rfl⟩
 ·show (UInt8.ofNat i).toNat<_;rw [KH];omega
 ·exact (hP P hPm).b.loc a ha hk
end
def wrF:Nat->List Ev->Nat->List Nat
 | _,[],_=>[]
 | i,e::es,l=>(if e.k=2/\e.l.toNat=l then [i] else [])++wrF (i+1) es l
theorem zi7:∀ (es:List Ev) (i:Nat) (W:List (List Nat)),(∀ e∈es,e.k=2->e.l.toNat<W.length)->(zh9 i es W).length=W.length/\∀ l,l<W.length->(zh9 i es W).getD l []=W.getD l []++wrF i es l
 | [],i,W,h=>⟨rfl,fun l hl=>(QK _).symm⟩
 | e::es,i,W,h=>by
  unfold zh9;by_cases hk:e.k=2
  ·rw [Gr hk];obtain⟨V,hV⟩:=nm (W.set e.l.toNat (W.getD e.l.toNat []++[i]));have hVl:V.length=W.length:=by rw [hV,QQ]
   obtain⟨h1,h2⟩:=zi7 es (i+1) V fun d hd hd2=>by rw [hVl];exact h d (JY _ hd) hd2
   rw [<- hV];refine⟨h1.trans hVl,fun l hl=>?_⟩;rw [h2 l (by omega)];show _=W.getD l []++((if e.k=2/\e.l.toNat=l then [i] else [])++wrF (i+1) es l);rw [<- KO];congr 1;rw [hV,gDe];by_cases hel:e.l.toNat=l
   ·rw [Gr ⟨hk,hel⟩,hel,JE hl];rfl
   ·rw [Gq fun h=>hel h.2,JV hel,QK,gDe]
  ·rw [Gq hk];obtain⟨h1,h2⟩:=zi7 es (i+1) W fun d hd=>h d (JY _ hd);refine⟨h1,fun l hl=>?_⟩;rw [h2 l hl];show _=W.getD l []++((if e.k=2/\e.l.toNat=l then [i] else [])++wrF (i+1) es l);rw [Gq fun h=>hk h.1,QU]
theorem zpg:∀ (es:List Ev) (i l:Nat),wrF i es l=((List.range es.length).filter fun j=>decide ((es.getD j ev0).k=2)&&decide ((es.getD j ev0).l.toNat=l)).map (· + i)
 | [],i,l=>rfl
 | e::es,i,l=>by
  unfold wrF;rw [zpg es (i+1) l,Qs,List.range_succ_eq_map,Qn,List.filter_map];have e0:(e::es).getD 0 ev0=e:=rfl;rw [e0];have ee:∀ j,(e::es).getD (Nat.succ j) ev0=es.getD j ev0:=fun j=>rfl;have hm:∀ L:List Nat,(L.map Nat.succ).map (· + i)=L.map (· + (i+1)):=fun L=>by
   rw [UI];exact Kk fun j _=>by show j.succ+i=j+(i+1);omega
  by_cases hk:e.k=2/\e.l.toNat=l
  ·rw [Gr hk,Us hk.1,Us hk.2,Gr (show (true&&true)=true from rfl),UC,hm,US];rfl
  ·rw [Gq hk];have:(decide (e.k=2)&&decide (e.l.toNat=l))=false:=by
    rw [Bool.and_eq_false_iff];by_cases h1:e.k=2
    ·exact .inr (Uh fun h=>hk ⟨h1,h⟩)
    ·exact .inl (Uh h1)
   rw [this,Gq Ku,hm];rfl
theorem zdG (all:List Ev) (W:List (List Nat)):∀ (es:List Ev) (i:Nat) (r:Nat×List Nat),r∈zbM all W i es->∃ j e,es[j]?=some e/\e.k=1/\r=(i+j,(W.getD e.l.toNat []).filter fun w=>decide ((all.getD w ev0).v=e.v))
 | [],i,r,h=>by cases h
 | e::es,i,r,h=>by
  unfold zbM at h
  split at h
  ·rename_i hk;rcases UD.1 h with h | h
   ·exact⟨0,e,rfl,hk,by rw [h];rfl⟩
   ·obtain⟨j,d,h1,h2,h3⟩:=zdG all W es (i+1) r h;exact⟨j+1,d,h1,h2,by rw [h3,show i+1+j=i+(j+1) by omega]⟩
  ·obtain⟨j,d,h1,h2,h3⟩:=zdG all W es (i+1) r h;exact⟨j+1,d,h1,h2,by rw [h3,show i+1+j=i+(j+1) by omega]⟩
theorem zkD (all:List Ev) (W:List (List Nat)):∀ (es:List Ev) (i:Nat),(zbM all W i es).length<=es.length
 | [],i=>UY _
 | e::es,i=>by
  have:=zkD all W es (i+1);unfold zbM
  split
  ·rw [Qs,Qs];omega
  ·rw [Qs];omega
structure ChoiceW (init:List UInt8) (Ps:List PathD) (m:MixD):Prop where
 i1:1<=init.length
 i6:init.length<=6
 p4:Ps.length<=4
 P:∀ P∈Ps,PathW init.length P
 n:zbv init.length Ps<=48
 m:m=zad (j9 init Ps) init.length
section
variable {init:List UInt8} {Ps:List PathD} {m:MixD}
theorem ChoiceW.base (h:ChoiceW init Ps m):m.base=j9 init Ps:=by rw [h.m];rfl
theorem ChoiceW.len (h:ChoiceW init Ps m):m.base.ev.length=zbv init.length Ps:=by rw [h.base,zqY]
theorem ChoiceW.wr (h:ChoiceW init Ps m):m.wr.length=init.length/\∀ l,l<init.length->m.wr.getD l []=zY m.base l:=by
 obtain⟨h1,h2⟩:=zi7 (j9 init Ps).ev 0 (List.replicate init.length []) fun e he hk=>by
  rw [JN];exact zcF h.i6 h.P he (.inr hk)
 rw [JN] at h1 h2;have e:m.wr=zh9 0 (j9 init Ps).ev (List.replicate init.length []):=by rw [h.m];rfl
 rw [e];refine⟨h1,fun l hl=>?_⟩;rw [h2 l hl,zpg,gDe,List.getElem?_replicate,Gr hl,h.base];show []++List.map (· + 0) _=_;rw [QU];show List.map (fun x=>x) _=_;rw [List.map_id'];rfl
theorem ChoiceW.wr_mem (h:ChoiceW init Ps m) {w:List Nat} (hw:w∈m.wr):∃ l,l<init.length/\w=zY m.base l/\m.wr[l]?=some w:=by
 obtain⟨h1,h2⟩:=h.wr;obtain⟨l,hl,rfl⟩:=Ki hw;refine⟨l,by omega,?_,gE hl⟩;have:=h2 l (by omega);rw [gDe,gE hl] at this;exact this
theorem ChoiceW.ini (h:ChoiceW init Ps m) {i:Nat} (hi:i<init.length):evA m.base i=⟨-1,2,UInt8.ofNat i,init[i],0,0,0⟩:=by
 unfold evA;rw [h.base,gDe,zo6 hi];rfl
theorem zgm (x:ExD) (l:Nat):(zY x l).length<=x.ev.length:=by
 refine UO (JM ..) ?_;rw [KV];exact UY _
theorem zfg {x:ExD} {l a:Nat} (h:a∈zY x l):a<x.ev.length:=Uo.1 (QT.1 h).1
theorem ChoiceW.head (h:ChoiceW init Ps m) {l:Nat} (hl:l<init.length):1<=(zY m.base l).length/\(zY m.base l).headD 48=l:=by
 have h6:=h.i6;have hn:init.length<=m.base.ev.length:=by
  rw [h.len];exact zgQ _ _
 have e:=zf7 (p:=fun i=>decide ((evA m.base i).k=2)&&decide ((evA m.base i).l.toNat=l)) (n:=m.base.ev.length) (k:=l) (by omega) (fun i hi=>by
  rw [h.ini (by omega)];have:¬ (UInt8.ofNat i).toNat=l:=by rw [KH];omega
  rw [Uh this,Ui]) (by
  rw [h.ini hl];have:(UInt8.ofNat l).toNat=l:=by rw [KH];omega
  rw [Us this];rfl)
 unfold zY;rw [e];exact⟨by simp,rfl⟩
theorem ChoiceW.rs (h:ChoiceW init Ps m) {r:Nat×List Nat} (hr:r∈m.rs):∃ e,m.base.ev[r.1]?=some e/\e.k=1/\r.2=(m.wr.getD e.l.toNat []).filter fun w=>decide ((m.base.ev.getD w ev0).v=e.v):=by
 rw [h.m] at hr ⊢;obtain⟨j,e,h1,h2,h3⟩:=zdG _ _ _ _ _ hr;rw [US] at h3;exact⟨e,by rw [h3];exact h1,h2,by rw [h3];rfl⟩
theorem ChoiceW.src (h:ChoiceW init Ps m) {r:Nat×List Nat} (hr:r∈m.rs):r.1<m.base.ev.length/\r.2.length<=48/\∀ s∈r.2,s<m.base.ev.length:=by
 have hn:=h.n;rw [<- h.len] at hn;obtain⟨e,h1,h2,h3⟩:=h.rs hr;have hlt:=(Js.1 h1).1;have hel:e.l.toNat<init.length:=by
  have:e∈(j9 init Ps).ev:=by rw [<- h.base];exact JZ h1
  exact zcF h.i6 h.P this (.inl h2)
 rw [h.wr.2 _ hel] at h3;refine⟨hlt,?_,fun s hs=>?_⟩
 ·rw [h3];have h4:=zgm m.base e.l.toNat;have h5:=JM (fun w=>decide ((m.base.ev.getD w ev0).v=e.v)) (zY m.base e.l.toNat);omega
 ·rw [h3] at hs;exact zfg (QT.1 hs).1
theorem ChoiceW.c (h:ChoiceW init Ps m):MixC m:=by
 have hn:=h.n;rw [<- h.len] at hn;refine⟨?_,?_,fun r hr=>?_,fun w hw=>?_⟩
 ·have:m.rs.length<=m.base.ev.length:=by
   rw [h.m];exact zkD _ _ _ _
  omega
 ·rw [h.wr.1];exact h.i6
 ·obtain⟨h1,h2,h3⟩:=h.src hr;exact⟨by omega,by omega,fun s hs=>by have:=h3 s hs;omega⟩
 ·obtain⟨l,hl,rfl,_⟩:=h.wr_mem hw;have:=zgm m.base l;omega
theorem ChoiceW.w1 (h:ChoiceW init Ps m) {w:List Nat} (hw:w∈m.wr):1<=w.length/\w.length<=48:=by
 refine⟨?_,h.c.wr w hw⟩;obtain⟨l,hl,rfl,_⟩:=h.wr_mem hw;exact (h.head hl).1
theorem ChoiceW.b (h:ChoiceW init Ps m):MixB m:=by
 have hn:=h.n;rw [<- h.len] at hn;obtain⟨b1,b2,b3,_⟩:=zcE (init:=init) (Ps:=Ps);have hc:=h.c;refine⟨hn,hc.rl,hc.wl,fun i _=>?_,fun i _=>?_,hc.rs,fun w hw=>?_⟩
 ·rw [h.base,b1];show 0<2^64;decide
 ·rw [h.base,b2];show 0<2^64;decide
 ·obtain⟨h1,h2⟩:=h.w1 hw;refine⟨h2,(zg3 h1 h2).2,fun k hk=>?_⟩;have hp:=(ziy h1 h2 hk).1;have hl:=hp.length_eq;refine⟨fun e=>by rw [e] at hl;simp at hl;omega,by omega,fun a ha=>?_⟩;obtain⟨l,hl,rfl,_⟩:=h.wr_mem hw;exact zfg (hp.subset ha)
end
theorem zfx:∀ (Ts:List (List PathD)) (ds:List Nat) (P:PathD),P∈jm Ts ds->∃ T∈Ts,P∈T
 | Ts,[],P,h=>by cases Ts <;> cases h
 | [],d::ds,P,h=>by cases h
 | T::Ts,d::ds,P,h=>by
  unfold jm at h;rcases QS.1 h with h | h
  ·cases hd:T[d]? with
   | none=>rw [hd] at h;cases h
   | some Q =>
    rw [hd] at h;rw [KA.1 h];exact⟨T,Kz,JZ hd⟩
  ·obtain⟨U,hU,h2⟩:=zfx Ts ds P h;exact⟨U,JY _ hU,h2⟩
theorem ziB:∀ (Ts:List (List PathD)) (ds:List Nat),(jm Ts ds).length<=Ts.length
 | Ts,[]=>by cases Ts <;> exact Gb _
 | [],d::ds=>UY _
 | T::Ts,d::ds=>by
  unfold jm;rw [lap,Qs];have:=ziB Ts ds
  cases T[d]? <;> simp <;> omega
section
variable {p:Prg} {V:List UInt8}
theorem zha (hO:OkG p) {l:List InsD} (hl:l∈p.threads) {P:PathD} (hP:P∈zK V l):PathW p.init.length P:=by
 obtain⟨R,hR,rfl⟩:=UL.1 hP;have h1:=hO.tl l hl;rw [hO.il] at h1;obtain⟨a,b⟩:=zqy h1 V R hR;exact ztB a b
theorem zdS (hO:OkG p) {m:MixD} (hm:m∈qh p V):∃ ds∈qg ((p.threads.map (zK V)).map List.length),ChoiceW p.init (jm (p.threads.map (zK V)) ds) m:=by
 unfold qh zp3 at hm;obtain⟨ds,hds,he⟩:=List.mem_filterMap.1 hm;unfold zhr at he
 split at he
 ·rename_i h48;refine⟨ds,hds,hO.i1,hO.i6,?_,fun P hP=>?_,h48,(Uf he).symm⟩
  ·have:=ziB (p.threads.map (zK V)) ds;rw [QN] at this;have:=hO.t4;omega
  ·obtain⟨T,hT,h2⟩:=zfx _ _ _ hP;obtain⟨l,hl,rfl⟩:=UL.1 hT;exact zha hO hl h2
 ·cases he
theorem zpx {α:Type} {f g:α->Nat}:∀ {l:List α},(∀ a∈l,f a<=g a)->(l.map f).sum<=(l.map g).sum
 | [],_=>UY _
 | a::l,h=>by
  rw [UC,UC,List.sum_cons,List.sum_cons];have:=h a Kz;have:=zpx (l:=l) fun b hb=>h b (JY _ hb);omega
theorem zml {α:Type} {f:α->Nat}:∀ {l:List α} {a:α},a∈l->f a<=(l.map f).sum
 | b::l,a,h=>by
  rw [UC,List.sum_cons];rcases UD.1 h with e | e
  ·rw [e];omega
  ·have:=zml (f:=f) e;omega
theorem zlz (hO:OkG p):CandB p V:=by
 refine⟨fun l hl P hP=>(zha hO hl hP).b,fun hm=>?_,fun hm m hmm=>?_,fun hm hs m hmm h1=>?_,fun hm hs=>?_⟩
 ·have h1:(qh p V).length<=(qg ((p.threads.map (zK V)).map List.length)).length:=List.length_filterMap_le _ _;have h2:(qg ((p.threads.map (zK V)).map List.length)).length=z6 ((p.threads.map (zK V)).map List.length).reverse:=by
   unfold qg;rw [QN,KV]
  have h3:=hm.2.1 p.threads.length (UY _);rw [Qw] at h3;rw [zfw] at h2;have h4:zbw ((p.threads.map (zK V)).map List.length)<=4096:=by rw [UI];exact h3
  omega
 ·obtain⟨_,_,h⟩:=zdS hO hmm;exact h.c
 ·obtain⟨_,_,h⟩:=zdS hO hmm;exact h.b
 ·show ((qh p V).flatMap qV).length<=30000;rw [List.length_flatMap];have:((qh p V).map fun m=>(qV m).length).sum<=((qh p V).map fun m=>jw m 20001).sum:=zpx fun m hmm=>by
   obtain⟨_,_,h⟩:=zdS hO hmm;refine zqQ (fun w hw=>h.w1 hw) ?_;have:=zml (f:=fun m=>jw m 20001) hmm;omega
  omega
end
def zb9 (p:Prg) (V:List UInt8) (most:Nat):Bool :=
 zc6 p&&(decide (zdD p=some V)&&((p.threads.all fun l=>decide ((qC l V).length<=4096))&&(((List.range (p.threads.length+1)).all fun k=>decide (zbw ((p.threads.take k).map fun l=>(zK V l).length)<=4096)) &&
  (((qg ((p.threads.map (zK V)).map List.length)).all fun ds=>(zhr p.init (jm (p.threads.map (zK V)) ds)).isSome)&&decide (((qh p V).map fun m=>jw m 20001).sum<=most)))))
theorem zo3 {p:Prg} {V:List UInt8} {most:Nat} (h:zb9 p V most=true):zc6 p=true/\zc3 p V most:=by
 unfold zb9 at h;simp only [bAT,dE,Qj,Uo] at h;obtain⟨h1,h2,h3,h4,h5,h6⟩:=h;exact⟨h1,h2,⟨h3,fun k hk=>h4 k (by omega),h5⟩,h6⟩
section
variable {w:Wd} {B most:Nat} {pc:List Value} {p:Prg} {V:List UInt8}
theorem zri (hB:B<=w.heap.size) (hP:PrgX B w pc p) (hG:GlobE w) (hm20:most<=20000) (hq:zb9 p V most=true) :
  Calls PG 12 #[.agg pc.toArray,i64 most] w fun e w'=>(∃ (xs:List zbV) (q:OA) (c:Nat),e = .returned (.tuple #[.slice q xs.length c,i64 0])/\xs.map (·.1)=je p V/\OwnS exE 46 w.heap.size w' q c xs/\∀ x∈xs,OwnS evE 49 w.heap.size w' x.2.1 x.2.2 x.1.ev)/\Bw w w':=by
 obtain⟨hok,hc⟩:=zo3 hq;refine cmo (zlK hB hP hG hok hm20 fun V _=>zlz (zeO hok)) ?_;rintro e X ⟨(⟨V',h1,h2⟩ | ⟨h1,_⟩),hb⟩
 ·have:V'=V:=by
   have e1:=h1.1;rw [hc.1] at e1;exact (Uf e1).symm
  subst this;exact⟨h2,hb⟩
 ·exact Gs hc (h1 V)
end
def stI (l v m:UInt8):InsD:=⟨2,0,l,false,v,false,0,0,m,0⟩
def ldI (d l m:UInt8):InsD:=⟨1,d,l,false,0,false,0,0,m,0⟩
section
variable {w:Wd}
theorem zup {q:OA} {cap:Nat} {l:List InsD} (hl:SlR zD w q l) (hn:l.length<=1000000) :
  Calls PG 27 #[.slice q l.length cap] w fun e w'=>(∃ b:Bool,e = .returned (.bool b))/\Bw w w':=by
 refine qj 35 [.slice q l.length cap] (.s .p (.s .p (.c .p .p))) Tryz.func27 ?_;refine⟨Nat,fun n=>⟨[(0,.slice q l.length cap),(3,i64 (n:Nat))],[]⟩,fun n X=>Bw w X,?_,?_⟩
 ·refine⟨Nat×Nat,fun s=>⟨[(0,.slice q l.length cap),(3,i64 (s.2:Nat)),(6,.slice q l.length cap),(7,i64 l.length),(8,i64 (s.1:Nat))],[]⟩,fun s X=>(s.1<=l.length/\s.2<=s.1)/\Bw w X,fun s=>l.length-s.1,(0,0),
   (cvE rfl rfl),⟨⟨Gb _,UY _⟩,Gd _ _⟩,?_⟩
  rintro⟨k,n⟩ X ⟨⟨hk,hnk⟩,hbX⟩;dsimp only at hk hnk ⊢;refine biE (fun hc=>?_) fun hc=>?_
  ·have hc:(k:Int)<(l.length:Int):=dT hc;have hkl:k<l.length:=by omega
   obtain⟨bp,op,rfl,hlp,hat⟩:=hl.at hkl;refine⟨k,rfl,hkl,zD.enc l[k],zD.len _,zq hbX (hat k hkl),nL hlp hbX.size,zo (X:=X) (v := .agg (zD.enc l[k]).toArray) k55 (zD.len _) rfl (Qj.2 fun u hu=>zD.one _ u hu) fun Y hbY fY sY=>?_⟩;have fY:Y.heap[X.heap.size]?=some (.cells (zD.enc l[k]).toArray 55 (0,0)):=fY;have c0:Y.cell? ⟨X.heap.size,0+0,none⟩=some (u8 l[k].op):=zc (za fY) (i:=0) rfl;have hwY:=zst hbX hbY;have fin1:(k+1<=l.length/\n+1<=k+1)/\Bw w Y:=⟨⟨hkl,by omega⟩,hwY⟩;have fin0:(k+1<=l.length/\n<=k+1)/\Bw w Y:=⟨⟨hkl,by omega⟩,hwY⟩;have lt:l.length-(k+1)<l.length-k:=by omega
   refine⟨_,c0,biE (fun h1=>?_) fun h1=>?_⟩
   ·exact brT (nxI (by omega) (nxI (by omega) ⟨(k+1,n+1),(cvE rfl rfl),fin1,lt⟩))
   ·refine⟨_,c0,biE (fun h2=>?_) fun h2=>?_⟩
    ·refine⟨_,c0,biE (fun h3=>?_) fun h3=>?_⟩
     ·exact nxI (by omega) (nxI (by omega) ⟨(k+1,n+1),(cvE rfl rfl),fin1,lt⟩)
     ·exact nxI (by omega) ⟨(k+1,n),(cvE rfl rfl),fin0,lt⟩
    ·exact brF (nxI (by omega) ⟨(k+1,n),(cvE rfl rfl),fin0,lt⟩)
  ·exact⟨n,(cvE rfl rfl),hbX⟩
 rintro n X hbX;refine biE (fun h1=>?_) fun h1=>?_
 ·exact⟨⟨_,rfl⟩,hbX⟩
 ·exact⟨⟨_,rfl⟩,hbX⟩
end
section
variable {w:Wd} {B:Nat} {pc:List Value} {p:Prg}
theorem zuo (hB:B<=w.heap.size) (hP:PrgX B w pc p) :
  Calls PG 10 #[.agg pc.toArray] w fun e w'=>(∃ b:Bool,e = .returned (.bool b))/\Bw w w':=by
 refine qj 63 [.agg pc.toArray] (.c .p (.s .p (.s .p (.c .p .p)))) Tryz.func10 ?_;obtain⟨L,hL⟩:=nm (w.heap.size);have hpc:=hP.v.size;have hPl:=hP.v.len;obtain⟨q1,k1,q2,k2,q3,k3,q4,k4,hvs,_⟩:=hP.v.h;have hpc1:pc[1]?=some (.slice q1 p.locs.length k1):=by rw [hvs];rfl
 obtain⟨_,⟨p3,c3,h3,xs,hxs,zdZ,hxr⟩,_⟩:=hP;have hxl:xs.length=p.threads.length:=by rw [<- hxs,QN]
 have hthr:=hPl.threads;refine⟨Unit,fun _=>⟨[(1,At0 L)],[]⟩,fun _ X=>X.heap[L]?=some (.cells pc.toArray 29 (0,0))/\Bw w X,⟨(),⟨.cons (by rw [hL];rfl) .nil,rfl⟩,by rw [hL];exact zu w _,(zba w _)⟩,?_⟩;rintro _ X ⟨f0,hbX⟩;have c3':X.cell? ⟨L,0+3,none⟩=some (.slice p3 p.threads.length c3):=zc (za f0) (i:=3) (by simpa using h3);have c1':X.cell? ⟨L,0+1,none⟩=some (.slice q1 p.locs.length k1):=zc (za f0) (i:=1) (by simpa using hpc1);refine⟨_,c3',biE (fun h1=>?_) fun h1=>?_⟩
 ·exact brT ⟨⟨_,rfl⟩,hbX⟩
 have h1:¬ (3:Int)<(p.threads.length:Int):=dF h1;refine⟨_,c1',biE (fun h2=>?_) fun h2=>?_⟩
 ·exact⟨⟨_,rfl⟩,hbX⟩
 refine⟨Nat,fun n=>⟨[(3,i64 (n:Nat))],[]⟩,fun n X=>Bw w X,?_,?_⟩
 ·refine⟨_,c3',?_⟩;refine⟨Nat×Nat,fun s=>⟨[(3,i64 (s.2:Nat)),(19,.slice p3 p.threads.length c3),(20,i64 p.threads.length),(21,i64 (s.1:Nat))],[]⟩,fun s Y=>(s.1<=p.threads.length/\s.2<=5*s.1)/\Bw w Y,fun s=>p.threads.length-s.1,(0,0),
   (cvE rfl rfl),⟨⟨Gb _,UY _⟩,hbX⟩,?_⟩
  clear c3' c1' f0 hbX;rintro⟨m,n⟩ Y ⟨⟨hm,hnm⟩,hbY⟩;dsimp only at hm hnm ⊢;refine biE (fun hc=>?_) fun hc=>?_
  ·have hc:(m:Int)<(p.threads.length:Int):=dT hc;have hmt:m<p.threads.length:=by omega
   have hmx:m<xs.length:=by omega
   obtain⟨b3,o3,hp3,hb3,hat3⟩:=zgs (zdZ.below (hbY.mono hB)) hmx;have hB2:b3<Y.heap.size:=nL hb3 (UO hB hbY.size);have e3:some (Value.slice p3 p.threads.length c3)=some (Value.slice (some ⟨b3,o3,none⟩) p.threads.length c3):=by rw [hp3]
   subst hp3;refine⟨m,rfl,hmt,zkg xs[m],by have:=zc (hat3 m hmx) (i:=0) (v:=zkg xs[m]) rfl;exact this,?_⟩;obtain⟨hrm,hrb⟩:=hxr _ (gM hmx);have hsl:SlR zD Y xs[m].2.1 xs[m].1:=(hrm.below (hbY.mono hB)).slr (UO hB hbY.size);obtain⟨l,hl⟩:=nm (xs[m].1);obtain⟨ql,hql⟩:=nm (xs[m].2.1);obtain⟨cl,hcl⟩:=nm (xs[m].2.2);have hv:zkg xs[m] = .slice ql l.length cl:=by rw [hl,hql,hcl];rfl
   rw [<- hl,<- hql] at hsl;rw [hv];refine biE (fun h5=>?_) fun h5=>?_
   ·exact brT ⟨⟨_,rfl⟩,hbY⟩
   have h5:¬ (5:Int)<(l.length:Int):=dF h5;have hl5:l.length<=5:=by omega
   refine cmo (zup hsl (by omega)) ?_;rintro e Z ⟨⟨b,rfl⟩,hbZ⟩;have hwZ:=zst hbY hbZ;have hslZ:=hsl.below hbZ;refine biE (fun h6=>?_) fun h6=>?_
   ·exact⟨⟨_,rfl⟩,hwZ⟩
   refine⟨Nat×Nat,fun s=>⟨[(3,i64 (s.2:Nat)),(19,.slice (some ⟨b3,o3,none⟩) p.threads.length c3),(20,i64 p.threads.length),(21,i64 (m:Nat)),(33,.slice ql l.length cl),(34,i64 l.length),(35,i64 (s.1:Nat))],[]⟩,fun s V=>(s.1<=l.length/\s.2<=5*m+s.1)/\Bw Z V,fun s=>l.length-s.1,(0,n),
    (cvE rfl rfl),⟨⟨Gb _,by show n<=5*m+0;omega⟩,Gd _ _⟩,?_⟩
   rintro⟨k,n2⟩ V ⟨⟨hk,hn2⟩,hbV⟩;dsimp only at hk hn2 ⊢;refine biE (fun hc=>?_) fun hc=>?_
   ·have hc:(k:Int)<(l.length:Int):=dT hc;have hkl:k<l.length:=(by omega);obtain⟨bp,op,hqe,hlp,hat⟩:=hslZ.at hkl;subst hqe;refine⟨k,rfl,hkl,zD.enc l[k],zD.len _,zq hbV (hat k hkl),nL hlp hbV.size,zo (X:=V) (v := .agg (zD.enc l[k]).toArray) k55 (zD.len _) rfl (Qj.2 fun u hu=>zD.one _ u hu) fun U hbU fU sU=>?_⟩;have fU:U.heap[V.heap.size]?=some (.cells (zD.enc l[k]).toArray 55 (0,0)):=fU;have c0:U.cell? ⟨V.heap.size,0+0,none⟩=some (u8 l[k].op):=zc (za fU) (i:=0) rfl;have hZU:=zst hbV hbU;have fin1:(k+1<=l.length/\n2+1<=5*m+(k+1))/\Bw Z U:=⟨⟨hkl,by omega⟩,hZU⟩;have fin0:(k+1<=l.length/\n2<=5*m+(k+1))/\Bw Z U:=⟨⟨hkl,by omega⟩,hZU⟩;have lt:l.length-(k+1)<l.length-k:=(by omega);refine⟨_,c0,biE (fun h7=>?_) fun h7=>?_⟩
    ·exact brT (brT (nxI (by omega) (nxI (by omega) ⟨(k+1,n2+1),(cvE rfl rfl),fin1,lt⟩)))
    ·refine⟨_,c0,biE (fun h8=>?_) fun h8=>?_⟩
     ·exact brT (nxI (by omega) (nxI (by omega) ⟨(k+1,n2+1),(cvE rfl rfl),fin1,lt⟩))
     ·refine⟨_,c0,biE (fun h9=>?_) fun h9=>?_⟩
      ·refine⟨_,c0,biE (fun h=>?_) fun h=>?_⟩
       ·exact nxI (by omega) (nxI (by omega) ⟨(k+1,n2+1),(cvE rfl rfl),fin1,lt⟩)
       ·exact nxI (by omega) ⟨(k+1,n2),(cvE rfl rfl),fin0,lt⟩
      ·exact brF (nxI (by omega) ⟨(k+1,n2),(cvE rfl rfl),fin0,lt⟩)
   ·exact nxI (by omega) ⟨(m+1,n2),(cvE rfl rfl),⟨⟨hmt,by show n2<=5*(m+1);omega⟩,(zst hwZ hbV)⟩,zdc (by omega)⟩
  ·exact⟨n,(cvE rfl rfl),hbY⟩
 rintro n Y hbY;exact⟨⟨_,rfl⟩,hbY⟩
end
section
variable {b c:Nat} {x:ExD} {q:OA}
theorem j5 {X:Wd} (fx:zF X ⟨b,0,none⟩ (exC x q c)):X.cell? ⟨b,0+0,none⟩=some (.slice q x.ev.length c):=zc fx (i:=0) rfl
end
section
variable {b c:Nat} {x:ExD} {q:OA}
theorem qO {X:Wd} (fx:ExH X b x q c) {i:Nat} (hi:i<6) {o:Nat} (ho:o=1+49*i):zF X ⟨b,0+o,none⟩ (zf ((zc5 x).getD i x.po)):=by
 rw [ho];exact zfr fx hi
end
theorem zdC {r:RelD} (h:zj7 r=true):zH r.to:=by
 unfold zj7 at h;rw [Qj] at h;exact fun i hi=>dT (h i (Uo.2 hi))
theorem znH {x:ExD} {q:OA} {X:Wd} (hv:SlR evE X q x.ev) (h:0<x.ev.length):∃ bq oq,q=some ⟨bq,oq,none⟩/\bq<X.heap.size/\∀ i,i<x.ev.length->zF X ⟨bq,oq+i*7,none⟩ (evE.enc (evA x i)):=by
 obtain⟨b,o,hq,hb,hat⟩:=hv.at h;refine⟨b,o,hq,hb,fun i hi=>?_⟩;have:=hat i hi;unfold evA;rw [gDe,gE hi];exact this
theorem zvd {X:Wd} {b:Nat} {x:ExD} {q:OA} {c:Nat} (fx:ExH X b x q c):zF X ⟨b,0+1,none⟩ (zf x.po):=qO fx (i:=0) (by decide) rfl
theorem zuE {X:Wd} {b:Nat} {x:ExD} {q:OA} {c:Nat} (fx:ExH X b x q c):zF X ⟨b,0+50,none⟩ (zf x.rf):=qO fx (i:=1) (by decide) rfl
theorem zve {X:Wd} {b:Nat} {x:ExD} {q:OA} {c:Nat} (fx:ExH X b x q c):zF X ⟨b,0+99,none⟩ (zf x.co):=qO fx (i:=2) (by decide) rfl
theorem zuG {p:Bool} (h:(!p)=true):p=false:=by simpa using h
theorem zuF {p:Bool} (h:(!p)=false):p=true:=by simpa using h
def ztR (x:ExD):Bool:=decide (x.ev.length<=20)&&(zj7 x.po&&(zj7 x.rf&&(zj7 x.co&&(zj7 x.dt&&(zj7 x.ct&&zj7 x.rm)))))
theorem zr9 {X:Wd} {x:ExD} {q:OA} (h:ztR x=true) (he:SlR evE X q x.ev):ExV X x q:=by
 unfold ztR at h;simp only [bAT,dE] at h;obtain⟨h1,h2,h3,h4,h5,h6,h7⟩:=h;exact⟨he,h1,zdC h2,zdC h3,zdC h4,zdC h5,zdC h6,zdC h7⟩
section
variable {r:RelD} {w:Wd}
theorem zr1 {b s:Nat} (f:w.heap[b]?=some (.cells (zf r).toArray 39 (0,0))) (hr:zH r.to) (hs:s<2^64) (h48:∀ i∈els s,i<48) (hT:Tz64M w) :
  CB 89 #[At0 b,s64 s] w (s64 (zdn r.to s)):=by
 refine zI 32 [At0 b,s64 s] Tryz.func89 ?_;refine cmo (za2 hs hT) ?_;rintro e X ⟨rfl,hbX⟩;refine⟨Nat×Nat,fun q=>⟨[(0,At0 b),(1,s64 q.2),(5,s64 q.1),(6,i64 ((els q.2).headD 0:Nat)),(7,.bool (!(els q.2).isEmpty))],[]⟩,
  fun q Y=>zdn r.to s=(els q.2).foldl (fun t a=>t|||r.to a) q.1/\(q.1<2^64/\q.2<2^64/\∀ i∈els q.2,i<48)/\Bw w Y,fun q=>q.2,(0,s),
  (cvE rfl rfl),⟨rfl,⟨(by decide:0<2^64),hs,h48⟩,hbX⟩,?_⟩
 clear hbX X;rintro⟨t,q⟩ X ⟨he,⟨ht,hq,h48⟩,hbX⟩;dsimp only at he ht hq h48 ⊢;refine biE (fun hc=>?_) fun hc=>?_
 ·have h0:=ze4 hq hc;obtain⟨e1,e2,_,e3⟩:=jQ h0 hq;have hd:=(zbT h0 hq).1;have hc48:ctz q<48:=h48 _ (by rw [e1];exact Kz);rw [hd];have fX:=zb hbX f;refine⟨ctz q,rfl,hc48,_,zaG fX hc48,_,zaf ht (hr _ hc48),((q-1:Nat):Int),(w64 (a:=(q:Int)-1) (by omega)).trans (by omega),((qp q:Nat):Int),jI (a:=q) (b:=q-1) hq (by omega),cmo (za2 (s:=qp q) (by omega) (hT.below hbX)) ?_⟩;rintro e Y ⟨rfl,hbY⟩;refine⟨(t|||r.to (ctz q),qp q),(cvE rfl rfl),⟨?_,⟨KY ht (hr _ hc48),by omega,fun i hi=>h48 i (by rw [e1];exact JY _ hi)⟩,(zst hbX hbY)⟩,e2⟩;rw [he,e1];rfl
 ·have hc:(els q).isEmpty=true:=by simpa using hc
  have:=zcW hq hc;subst this;refine⟨?_,hbX⟩;rw [he,jP];rfl
theorem zfP {ra rb:RelD} {ba bb g:Nat} {caps:Array Value} {row:Nat->Nat} (fa:w.heap[ba]?=some (.cells (zf ra).toArray 39 (0,0))) (fb:w.heap[bb]?=some (.cells (zf rb).toArray 39 (0,0)))
  (ha:zH ra.to) (hb:zH rb.to) (hok:jS (sg 0) g=true)
  (zdZ:ra.n=rb.n->okR ra=true->okR rb=true->∀ i X,i<ra.n.toNat->Bw w X->Calls PG g (i64 (i:Nat)::caps.toList).toArray X fun e Y=>e = .returned (s64 (row i))/\Bw X Y) :
  CB 35 #[At0 ba,At0 bb,.func (.func g) #[] caps] w (.tuple #[.agg (zf (comb ra rb row).1).toArray,i64 (comb ra rb row).2]):=by
 refine qj 38 [At0 ba,At0 bb,.func (.func g) #[] caps] (.c .p (.s .p .p)) Tryz.func35 ?_;obtain⟨L,hL⟩:=nm (w.heap.size);refine⟨Unit,fun _=>⟨[(0,At0 ba),(1,At0 bb),(2,.func (.func g) #[] caps),(6,At0 L)],[]⟩,fun _ X=>X.heap[L]?=some (.cells (zf zw).toArray 39 (0,0))/\Bw w X,⟨(),⟨.cons rfl (.cons rfl (.cons rfl (.cons (by rw [hL];rfl) .nil))),rfl⟩,by rw [hL];exact zu w _,(zba w _)⟩,?_⟩;rintro _ X ⟨f0,hbX⟩;have hd:Bw X X.drew:=(Gd _ X).drew;have hbD:=zst hbX hd;have no:∀ {Y:Wd},Y.heap[L]?=some (.cells (zf zw).toArray 39 (0,0))->Bw w Y->(ra.n=rb.n&&(okR ra&&okR rb))=false->∀ {K:Wd->Prop},(∀ Z,Z.heap[L]?=some (.cells (zf (comb ra rb row).1).toArray 39 (0,0))->(comb ra rb row).2=2->Bw w Z->K Z)->SatR ((storeVar 39 ⟨L,0,none⟩ (.agg (zf zw).toArray)).run PG Y) fun _ w'=>K w' :=
  fun {Y} f b h {K} k=>by
   have e:comb ra rb row=(zw,2):=by unfold comb;rw [h];rfl
   exact zt (v := .agg (zf zw).toArray) k39 f rfl rfl (zC _) (k _ (by rw [e];exact zm f) (by rw [e]) (zl b (by omega) _))
 refine DrawE.ord [] [0,1,2,3,4,5,6,7,8,9,10,11,12,13,14,15,16,17,18,19,20,21,22] (by kernel_rfl) ?_;have hz:∀ {Y:Wd},Bw w Y->∀ {K:Value->Prop},K (.agg (zf zw).toArray)->K (.agg (zf zw).toArray):=fun _ _ h=>h;refine⟨_,zc (za (zb hbD fa)) (i:=0) rfl,_,zc (za (zb hbD fb)) (i:=0) rfl,biE (fun h=>?_) fun h=>?_⟩
 ·have h:ra.n≠rb.n:=fun e=>by
   have h:(!decide (ra.n=rb.n))=true:=h;rw [Us e] at h;cases h
  refine brT (brT ⟨zf zw,rfl,no (hdr f0) hbD (by rw [Uh h];rfl) fun Z fZ e2 bZ=>⟨zf (comb ra rb row).1,zg _,za fZ,?_,bZ⟩⟩);rw [e2];rfl
 have h:ra.n=rb.n:=by
  have h:(!decide (ra.n=rb.n))=false:=h;simpa using h
 refine⟨zf ra,zg _,za (zb hbD fa),hlt (zb hbD fa),cmo (jC ha) ?_⟩;rintro e Y ⟨rfl,hbY⟩;refine⟨hbY,?_⟩;have hbwY:=zst hbD hbY;have f0Y:=zb hbY (hdr f0);refine biE (fun h1=>?_) fun h1=>?_
 ·have h1:okR ra=false:=by
   have h1:(!okR ra)=true:=h1;simpa using h1
  refine brT ⟨zf zw,rfl,no f0Y hbwY (by rw [h1,Uj,Ui]) fun Z fZ e2 bZ=>⟨zf (comb ra rb row).1,zg _,za fZ,?_,bZ⟩⟩;rw [e2];rfl
 have h1:okR ra=true:=by
  have h1:(!okR ra)=false:=h1;simpa using h1
 refine⟨zf rb,zg _,za (zb hbwY fb),hlt (zb hbwY fb),cmo (jC hb) ?_⟩;rintro e V ⟨rfl,hbV⟩;refine⟨hbV,?_⟩;have hbwV:=zst hbwY hbV;have f0V:=zb hbV f0Y;refine biE (fun h2=>?_) fun h2=>?_
 ·have h2:okR rb=false:=by
   have h2:(!okR rb)=true:=h2;simpa using h2
  refine⟨zf zw,rfl,no f0V hbwV (by rw [h2,Ui,Ui]) fun Z fZ e2 bZ=>⟨zf (comb ra rb row).1,zg _,za fZ,?_,bZ⟩⟩;rw [e2];rfl
 have h2:okR rb=true:=by
  have h2:(!okR rb)=false:=h2;simpa using h2
 obtain⟨p0,p48,_⟩:=q9 h1;have e:comb ra rb row=(jT ra.n.toNat row,0):=by unfold comb;rw [h1,h2,Us h];rfl
 rw [e];have hn:ra.n=(ra.n.toNat:Int):=by omega
 refine⟨i64 (ra.n.toNat:Nat),by rw [<- hn];exact zc (za (zb hbwV fa)) (i:=0) rfl,cmo (zjT (w:=V) (n:=ra.n.toNat) (by omega) hok (fun i Z hi hbZ=>zdZ h h1 h2 i Z hi ((zst hbwV hbZ)))) ?_⟩;rintro e Z ⟨rfl,hbZ⟩;have f0Z:=zb hbZ f0V;exact zt (v := .agg (zf (jT ra.n.toNat row)).toArray) k39 f0Z rfl rfl (zC _) ⟨zf (jT ra.n.toNat row),zg _,za (zm f0Z),rfl,zl ((zst hbwV hbZ)) (by omega) _⟩
end
section
variable {ra rb:RelD} {w:Wd}
theorem zq8 {ba bb i:Nat} (fa:w.heap[ba]?=some (.cells (zf ra).toArray 39 (0,0))) (fb:w.heap[bb]?=some (.cells (zf rb).toArray 39 (0,0))) (ha:zH ra.to) (hb:zH rb.to) (hi:i<48) :
  CB 36 (i64 (i:Nat)::[At0 ba,At0 bb]).toArray w (s64 (ra.to i|||rb.to i)):=by
 refine zI 14 (i64 (i:Nat)::[At0 ba,At0 bb]) Tryz.func36 ?_;refine DrawE.ord [] [0,1,2,3,4,5,6,7,8,9] (by kernel_rfl) ?_;have hd:Bw w w.drew:=(Gd _ w).drew;exact⟨i,rfl,hi,_,zaG (hdr fa) hi,i,rfl,hi,_,zaG (hdr fb) hi,_,zaf (ha i hi) (hb i hi),rfl,hd⟩
theorem zgI (ha:zH ra.to) (hb:zH rb.to):CB 16 #[.agg (zf ra).toArray,.agg (zf rb).toArray] w (.tuple #[.agg (zf (ju ra rb).1).toArray,i64 (ju ra rb).2]):=by
 refine qj 10 [.agg (zf ra).toArray,.agg (zf rb).toArray] (.c .p .p) Tryz.func16 ?_;obtain⟨L,hL⟩:=nm (w.heap.size);refine⟨Unit,fun _=>⟨[(2,At0 L),(3,At0 (L+1)),(4,At0 (L+2)),(5,i64 0)],[]⟩,fun _ X=>X.heap[L]?=some (.cells (zf ra).toArray 39 (0,0))/\X.heap[L+1]?=some (.cells (zf rb).toArray 39 (0,0))/\X.heap[L+2]?=some (.cells (zf zw).toArray 39 (0,0))/\Bw w X,?_,?_⟩
 ·have s1:=wz w (.cells (zf ra).toArray 39);have s2:=wz (w.alloc (.cells (zf ra).toArray 39)) (.cells (zf rb).toArray 39);have h2:=zu (w.alloc (.cells (zf ra).toArray 39)) (.cells (zf rb).toArray 39);have h3:=zu ((w.alloc (.cells (zf ra).toArray 39)).alloc (.cells (zf rb).toArray 39)) (.cells (zf zw).toArray 39);rw [s1] at s2 h2;rw [s2] at h3;refine⟨(),⟨.cons (by rw [hL];rfl) (.cons (by rw [hL,<- s1];rfl) (.cons (by rw [hL,<- s2];rfl) (.cons rfl .nil))),rfl⟩,?_,?_,?_,?_⟩
  ·rw [hL];exact qB _ (qB _ (zu w _))
  ·rw [hL];exact qB _ h2
  ·rw [hL];exact h3
  ·exact (((zba w _)).alloc (by simp) _).alloc (by simp;omega) _
 rintro _ X ⟨f0,f1,f2,hbX⟩;refine cmo (zfP (row:=fun i=>ra.to i|||rb.to i) f0 f1 ha hb (by kernel_rfl) (fun e h1 h2 i Y hi hbY=>?_)) ?_
 ·have h48:=(q9 h1).2.1;exact zq8 (zb hbY f0) (zb hbY f1) ha hb (by omega)
 rintro e Y ⟨rfl,hbY⟩;exact zt (v := .agg (zf (ju ra rb).1).toArray) k39 (zb hbY f2) rfl rfl (zC _) ⟨zf (ju ra rb).1,zg _,za (zm (zb hbY f2)),rfl,zl ((zst hbX hbY)) (by omega) _⟩
theorem zsV {ba bb i:Nat} (fa:w.heap[ba]?=some (.cells (zf ra).toArray 39 (0,0))) (fb:w.heap[bb]?=some (.cells (zf rb).toArray 39 (0,0))) (ha:zH ra.to) (hb:zH rb.to) (hi:i<48) :
  CB 90 (i64 (i:Nat)::[At0 ba,At0 bb]).toArray w (s64 (ra.to i&&&rb.to i)):=by
 refine zI 14 (i64 (i:Nat)::[At0 ba,At0 bb]) Tryz.func90 ?_;refine DrawE.ord [] [0,1,2,3,4,5,6,7,8,9] (by kernel_rfl) ?_;have hd:Bw w w.drew:=(Gd _ w).drew;exact⟨i,rfl,hi,_,zaG (hdr fa) hi,i,rfl,hi,_,zaG (hdr fb) hi,_,jI (ha i hi) (hb i hi),rfl,hd⟩
theorem zrj (ha:zH ra.to) (hb:zH rb.to):CB 54 #[.agg (zf ra).toArray,.agg (zf rb).toArray] w (.tuple #[.agg (zf (za6 ra rb).1).toArray,i64 (za6 ra rb).2]):=by
 refine qj 10 [.agg (zf ra).toArray,.agg (zf rb).toArray] (.c .p .p) Tryz.func54 ?_;obtain⟨L,hL⟩:=nm (w.heap.size);refine⟨Unit,fun _=>⟨[(2,At0 L),(3,At0 (L+1)),(4,At0 (L+2)),(5,i64 0)],[]⟩,fun _ X=>X.heap[L]?=some (.cells (zf ra).toArray 39 (0,0))/\X.heap[L+1]?=some (.cells (zf rb).toArray 39 (0,0))/\X.heap[L+2]?=some (.cells (zf zw).toArray 39 (0,0))/\Bw w X,?_,?_⟩
 ·have s1:=wz w (.cells (zf ra).toArray 39);have s2:=wz (w.alloc (.cells (zf ra).toArray 39)) (.cells (zf rb).toArray 39);have h2:=zu (w.alloc (.cells (zf ra).toArray 39)) (.cells (zf rb).toArray 39);have h3:=zu ((w.alloc (.cells (zf ra).toArray 39)).alloc (.cells (zf rb).toArray 39)) (.cells (zf zw).toArray 39);rw [s1] at s2 h2;rw [s2] at h3;refine⟨(),⟨.cons (by rw [hL];rfl) (.cons (by rw [hL,<- s1];rfl) (.cons (by rw [hL,<- s2];rfl) (.cons rfl .nil))),rfl⟩,?_,?_,?_,?_⟩
  ·rw [hL];exact qB _ (qB _ (zu w _))
  ·rw [hL];exact qB _ h2
  ·rw [hL];exact h3
  ·exact (((zba w _)).alloc (by simp) _).alloc (by simp;omega) _
 rintro _ X ⟨f0,f1,f2,hbX⟩;refine cmo (zfP (row:=fun i=>ra.to i&&&rb.to i) f0 f1 ha hb (by kernel_rfl) (fun e h1 h2 i Y hi hbY=>?_)) ?_
 ·have h48:=(q9 h1).2.1;exact zsV (zb hbY f0) (zb hbY f1) ha hb (by omega)
 rintro e Y ⟨rfl,hbY⟩;exact zt (v := .agg (zf (za6 ra rb).1).toArray) k39 (zb hbY f2) rfl rfl (zC _) ⟨zf (za6 ra rb).1,zg _,za (zm (zb hbY f2)),rfl,zl ((zst hbX hbY)) (by omega) _⟩
theorem zsN {ba bb i:Nat} (fa:w.heap[ba]?=some (.cells (zf ra).toArray 39 (0,0))) (fb:w.heap[bb]?=some (.cells (zf rb).toArray 39 (0,0))) (ha:zH ra.to) (hb:zH rb.to) (hi:i<48) (h48:∀ j∈els (ra.to i),j<48) (hT:Tz64M w) :
  CB 88 (i64 (i:Nat)::[At0 bb,At0 ba]).toArray w (s64 (zdn rb.to (ra.to i))):=by
 refine zI 10 (i64 (i:Nat)::[At0 bb,At0 ba]) Tryz.func88 ?_;refine⟨i,rfl,hi,_,zaG fa hi,cmo (zr1 fb hb (ha i hi) h48 hT) ?_⟩;rintro e Y ⟨rfl,hbY⟩;exact⟨rfl,hbY⟩
theorem zcm (ha:zH ra.to) (hb:zH rb.to) (hT:Tz64M w):CB 53 #[.agg (zf ra).toArray,.agg (zf rb).toArray] w (.tuple #[.agg (zf (jk ra rb).1).toArray,i64 (jk ra rb).2]):=by
 refine qj 10 [.agg (zf ra).toArray,.agg (zf rb).toArray] (.c .p .p) Tryz.func53 ?_;obtain⟨L,hL⟩:=nm (w.heap.size);refine⟨Unit,fun _=>⟨[(2,At0 L),(3,At0 (L+1)),(4,At0 (L+2)),(5,i64 0)],[]⟩,fun _ X=>X.heap[L]?=some (.cells (zf ra).toArray 39 (0,0))/\X.heap[L+1]?=some (.cells (zf rb).toArray 39 (0,0))/\X.heap[L+2]?=some (.cells (zf zw).toArray 39 (0,0))/\Bw w X,?_,?_⟩
 ·have s1:=wz w (.cells (zf ra).toArray 39);have s2:=wz (w.alloc (.cells (zf ra).toArray 39)) (.cells (zf rb).toArray 39);have h2:=zu (w.alloc (.cells (zf ra).toArray 39)) (.cells (zf rb).toArray 39);have h3:=zu ((w.alloc (.cells (zf ra).toArray 39)).alloc (.cells (zf rb).toArray 39)) (.cells (zf zw).toArray 39);rw [s1] at s2 h2;rw [s2] at h3;refine⟨(),⟨.cons (by rw [hL];rfl) (.cons (by rw [hL,<- s1];rfl) (.cons (by rw [hL,<- s2];rfl) (.cons rfl .nil))),rfl⟩,?_,?_,?_,?_⟩
  ·rw [hL];exact qB _ (qB _ (zu w _))
  ·rw [hL];exact qB _ h2
  ·rw [hL];exact h3
  ·exact (((zba w _)).alloc (by simp) _).alloc (by simp;omega) _
 rintro _ X ⟨f0,f1,f2,hbX⟩;refine cmo (zfP (row:=fun i=>zdn rb.to (ra.to i)) f0 f1 ha hb (by kernel_rfl) (fun e h1 h2 i Y hi hbY=>?_)) ?_
 ·have h48:=(q9 h1).2.1;exact zsN (zb hbY f0) (zb hbY f1) ha hb (by omega) (fun j hj=>(zjw h1 ha (by omega) j hj).2) ((hT.below hbX).below hbY)
 rintro e Y ⟨rfl,hbY⟩;exact zt (v := .agg (zf (jk ra rb).1).toArray) k39 (zb hbY f2) rfl rfl (zC _) ⟨zf (jk ra rb).1,zg _,za (zm (zb hbY f2)),rfl,zl ((zst hbX hbY)) (by omega) _⟩
theorem zu0 {ba i s:Nat} (fa:w.heap[ba]?=some (.cells #[s64 s] 36 (0,0))) (hs:s<2^64) (hi:i<48) :
  CB 161 (i64 (i:Nat)::[At0 ba]).toArray w (s64 (s&&&2^i)):=by
 refine zI 8 (i64 (i:Nat)::[At0 ba]) Tryz.func161 ?_;exact DrawE.ord [] [0,1,2,3,4] (by kernel_rfl) ⟨_,zc (za (hdr fa)) (i:=0) rfl,by omega,_,jZ (e:=i) (by omega),_,jI hs (z3 (by omega)),rfl,(Gd _ w).drew⟩
theorem zuZ {n s:Nat} (hn:n<=48) (hs:s<2^64):CB 119 #[i64 n,s64 s] w (.agg (zf (idR n s)).toArray):=by
 refine qj 15 [i64 n,s64 s] (.c .p (.s .p .p)) Tryz.func119 ?_;obtain⟨L,hL⟩:=nm (w.heap.size);refine⟨Unit,fun _=>⟨[(0,i64 n),(3,At0 L),(4,At0 (L+1))],[]⟩,fun _ X=>X.heap[L]?=some (.cells #[s64 s] 36 (0,0))/\X.heap[L+1]?=some (.cells (zf zw).toArray 39 (0,0))/\Bw w X,?_,?_⟩
 ·have s1:=wz w (.cells #[s64 s] 36);have h2:=zu (w.alloc (.cells #[s64 s] 36)) (.cells (zf zw).toArray 39);rw [s1] at h2;refine⟨(),⟨.cons rfl (.cons (by rw [hL];rfl) (.cons (by rw [hL,<- s1];rfl) .nil)),rfl⟩,?_,?_,?_⟩
  ·rw [hL];exact qB _ (zu w _)
  ·rw [hL];exact h2
  ·exact ((zba w _)).alloc (by simp) _
 rintro _ X ⟨f0,f1,hbX⟩;refine brN (Uh (by omega)) (brN (Uh (by omega)) (cmo (zjT (w:=X) (n:=n) (row:=fun a=>s&&&2^a) hn (by kernel_rfl) (fun i Z hi hbZ=>zu0 (zb hbZ f0) hs (by omega))) ?_));rintro e Z ⟨rfl,hbZ⟩;have f1Z:=zb hbZ f1;exact zt (v := .agg (zf (idR n s)).toArray) k39 f1Z rfl rfl (zC _) ⟨zf (idR n s),zg _,za (zm f1Z),rfl,zl ((zst hbX hbZ)) (by omega) _⟩
theorem zun (ha:zH ra.to):CB 91 #[.agg (zf ra).toArray] w (s64 (zlc ra)):=by
 refine zI 24 [.agg (zf ra).toArray] Tryz.func91 ?_;have f0:=zu w (.cells (zf ra).toArray 39);have hb:Bw w (w.alloc (.cells (zf ra).toArray 39)):=zba w _;refine⟨zf ra,zg _,za f0,hlt f0,cmo (jC ha) ?_⟩;rintro e X ⟨rfl,hbX⟩;have hbw:=zst hb hbX;have fX:=zb hbX f0;refine biE (fun h=>?_) fun h=>?_
 ·have h:okR ra=false:=by
   have h:(!okR ra)=true:=h;simpa using h
  exact⟨by unfold zlc;rw [h];rfl,hbw⟩
 have h:okR ra=true:=by
  have h:(!okR ra)=false:=h;simpa using h
 obtain⟨p0,p48,_⟩:=q9 h;obtain⟨n,hn⟩:∃ n:Nat,ra.n=n:=⟨ra.n.toNat,by omega⟩;refine⟨i64 n,by rw [<- hn];exact zc (za fX) (i:=0) rfl,?_⟩;have e0:zlc ra=(List.range n).foldl (fun s a=>if ra.to a=0 then s else s|||2^a) 0:=by unfold zlc;rw [Gr h,hn];rfl
 refine⟨Nat,fun k=>⟨[(1,.pointer (some ⟨w.heap.size,0,none⟩)),(3,s64 ((List.range k).foldl (fun s a=>if ra.to a=0 then s else s|||2^a) 0)),(9,i64 n),(10,i64 (k:Nat))],[]⟩,fun k Y=>X=Y/\k<=n/\(List.range k).foldl (fun s a=>if ra.to a=0 then s else s|||2^a) 0<2^64,fun k=>n-k,0,
  (cvE rfl rfl),⟨rfl,Gb _,(by decide:0<2^64)⟩,?_⟩
 rintro k _ ⟨rfl,hk,hlt64⟩;refine biE (fun hc=>?_) fun hc=>?_
 ·have hc:(k:Int)<(n:Int):=dT hc;have hkn:k<n:=by omega
  have step:(List.range (k+1)).foldl (fun s a=>if ra.to a=0 then s else s|||2^a) 0=if ra.to k=0 then (List.range k).foldl (fun s a=>if ra.to a=0 then s else s|||2^a) 0 else (List.range k).foldl (fun s a=>if ra.to a=0 then s else s|||2^a) 0|||2^k:=by
   rw [QW,KT];rfl
  refine⟨k,rfl,by omega,?_⟩;refine⟨_,zaG fX (by omega),biE (fun h1=>?_) fun h1=>?_⟩
  ·have h1:¬ ra.to k=0:=fun e=>by
    have h1:(!decide (((ra.to k:Nat):Int)=0))=true:=h1;rw [e] at h1;exact Gs h1 (by decide)
   rw [Gq h1] at step;exact⟨by omega,_,jZ (e:=k) (by omega),_,zaf hlt64 (z3 (by omega)),nxI (by omega) ⟨k+1,⟨.cons rfl (.cons (by rw [step];rfl) (.cons rfl (.cons rfl .nil))),rfl⟩,⟨rfl,hkn,by rw [step];exact KY hlt64 (z3 (by omega))⟩,zdc (by omega)⟩⟩
  ·have h1:ra.to k=0:=by
    have h1:(!decide (((ra.to k:Nat):Int)=0))=false:=h1;have h2:decide (((ra.to k:Nat):Int)=0)=true:=(by simpa using h1);exact Uz (dT h2)
   rw [Gr h1] at step;exact nxI (by omega) ⟨k+1,⟨.cons rfl (.cons (by rw [step];rfl) (.cons rfl (.cons rfl .nil))),rfl⟩,⟨rfl,hkn,by rw [step];exact hlt64⟩,zdc (by omega)⟩
 ·have hc:¬ (k:Int)<(n:Int):=dF hc;obtain rfl:k=n:=by omega
  exact⟨by rw [e0];rfl,hbw⟩
theorem zsS (ha:zH ra.to):CB 55 #[.agg (zf ra).toArray] w (.bool (zbX ra)):=by
 refine zI 10 [.agg (zf ra).toArray] Tryz.func55 ?_;have f0:=zu w (.cells (zf ra).toArray 39);have hb:Bw w (w.alloc (.cells (zf ra).toArray 39)):=zba w _;refine⟨zf ra,zg _,za f0,hlt f0,cmo (jC ha) ?_⟩;rintro e X ⟨rfl,hbX⟩;have hbw:=zst hb hbX;have fX:=zb hbX f0;refine biE (fun h=>?_) fun h=>?_
 ·have h:okR ra=true:=h;refine⟨zf ra,zg _,za fX,hlt fX,cmo (zun ha) ?_⟩;rintro e Y ⟨rfl,hbY⟩;refine⟨rb ?_,(zst hbw hbY)⟩;unfold zbX;rw [h,Uy];exact QG.2 Int.ofNat_inj
 ·have h:okR ra=false:=h;exact⟨rb (by unfold zbX;rw [h];rfl),hbw⟩
end
theorem zix {X:Wd} {L:Nat} {r:RelD} (h:zS X L r):∀ i,i<48->X.cell? ⟨L,0+1+i*1,none⟩=some (s64 (r.to i)):=by
 have hR:RelAt X L 0 39 [] [] r:=⟨rfl,by simpa using h⟩;exact fun i hi=>hR.cell hi
theorem znZ {s b:Nat}:decide ((((s/2^b&&&1:Nat):Nat):Int)=1)=s.testBit b:=by
 rw [zjV]
 cases s.testBit b <;> rfl
def zf4 (r:RelD) (a b:Nat):Bool:=okR r&&(decide ((a:Int)<r.n)&&(decide ((b:Int)<r.n)&&zh r a b))
section
variable {w:Wd} {r:RelD}
theorem zu1 {a b:Nat} (hr:zH r.to):CB 15 #[.agg (zf r).toArray,i64 a,i64 b] w (.bool (zf4 r a b)):=by
 refine qj 38 [.agg (zf r).toArray,i64 a,i64 b] (.c .p .p) Tryz.func15 ?_;obtain⟨L,hL⟩:=nm (w.heap.size);refine⟨Unit,fun _=>⟨[(1,i64 a),(2,i64 b),(3,At0 L)],[]⟩,fun _ X=>zS X L r/\Bw w X,⟨(),⟨.cons rfl (.cons rfl (.cons (by rw [hL];rfl) .nil)),rfl⟩,by rw [hL];exact zu w _,(zba w _)⟩,?_⟩;rintro _ X ⟨fX,hbX⟩;refine⟨zf r,zg _,za fX,hlt fX,cmo (jC hr) ?_⟩;rintro e Y ⟨rfl,hbY⟩;have bY:=zst hbX hbY;have fY:=zb hbY fX;have ld:Y.cell? ⟨L,0+0,none⟩=some (i64 r.n):=zc (za fY) (i:=0) rfl;refine biE (fun h1=>?_) fun h1=>?_
 ·have h1:okR r=false:=zuG h1;exact brT (brT (brT (brT ⟨rb (by unfold zf4;rw [h1];rfl),bY⟩)))
 have h1:okR r=true:=zuF h1;have h48:=(q9 h1).2.1;refine brN (Uh (by omega)) ⟨_,ld,biE (fun h2=>?_) fun h2=>?_⟩
 ·have h2:r.n<=(a:Int):=dT h2;exact brT (brT ⟨rb (by unfold zf4;rw [Uh (by omega:¬ (a:Int)<r.n),Uj,Ui]),bY⟩)
 have h2:¬ r.n<=(a:Int):=dF h2;refine brN (Uh (by omega)) ⟨_,ld,biE (fun h3=>?_) fun h3=>?_⟩
 ·have h3:r.n<=(b:Int):=dT h3;exact⟨rb (by unfold zf4;rw [Uh (by omega:¬ (b:Int)<r.n),Uj,Ui,Ui]),bY⟩
 have h3:¬ r.n<=(b:Int):=dF h3;have ha48:a<48:=by omega
 have hb48:b<48:=by omega
 have e0:zf4 r a b=zh r a b:=by unfold zf4;rw [h1,Us (by omega:(a:Int)<r.n),Us (by omega:(b:Int)<r.n)];rfl
 rw [e0];exact⟨a,rfl,ha48,s64 (r.to a),zix fY a ha48,by omega,_,zey (a:=r.to a) (k:=b) (by omega),_,jI (a:=r.to a/2^b) (b:=1) (KE (Nat.div_le_self _ _) (hr a ha48)) (by decide),rb znZ,bY⟩
end
def jL (n:Nat) (p:Nat->Nat->Bool) (a k:Nat):Nat->Nat:=fun i=>if i<a then zfp n (p i) else if i=a then zfp k (p a) else 0
theorem zkw (n:Nat) (p:Nat->Nat->Bool) (a k:Nat):jL n p a k a=zfp k (p a):=by
 unfold jL;rw [Gq (by omega),Gr rfl]
theorem zoq {n:Nat} {p:Nat->Nat->Bool} {a k:Nat} (h:p a k=true):upd (jL n p a k) a (jL n p a k a|||2^k)=jL n p a (k+1):=by
 funext i;by_cases hi:i=a
 ·subst hi;rw [zP,zkw,zkw,zdF,Gr h]
 ·rw [qk _ _ hi];unfold jL;rw [Gq hi,Gq hi]
theorem zl6 {n:Nat} {p:Nat->Nat->Bool} {a k:Nat} (h:p a k=false):jL n p a k=jL n p a (k+1):=by
 have e:zfp (k+1) (p a)=zfp k (p a):=by rw [zdF,Gq (by rw [h];decide)]
 funext i;unfold jL;rw [e]
theorem zl7 (n:Nat) (p:Nat->Nat->Bool) (a:Nat):jL n p a n=jL n p (a+1) 0:=by
 funext i;unfold jL;by_cases h1:i<a
 ·rw [Gr h1,Gr (by omega)]
 ·by_cases h2:i=a
  ·subst h2;rw [Gq h1,Gr rfl,Gr (by omega)]
  ·rw [Gq h1,Gq h2,Gq (by omega)]
   split
   ·rfl
   ·rfl
theorem zl5 (n:Nat) (p:Nat->Nat->Bool):jL n p 0 0=fun _=>0:=by
 funext i;unfold jL;rw [Gq (by omega)]
 split <;> rfl
theorem zor (n:Nat) (p:Nat->Nat->Bool):jL n p n 0=(zbN n p).to:=by
 funext i;unfold jL zbN jT;show _=if i<n then _ else 0
 by_cases h:i<n
 ·rw [Gr h,Gr h]
 ·rw [Gq h,Gq h]
  split <;> rfl
theorem zop {n:Nat} {p:Nat->Nat->Bool} {a k:Nat} (hn:n<=64) (hk:k<=64):zH (jL n p a k):=fun i _=>by
 unfold jL
 split
 ·exact zeD _ n hn
 ·split
  ·exact zeD _ k hk
  ·decide
section
variable {w:Wd}
theorem zX {b o a d:Nat} {r:RelD} (hc:∀ i,i<48->w.cell? ⟨b,o+1+i*1,none⟩=some (s64 (r.to i))) (hr:zH r.to) (ha:a<48) (hd:d<48) :
  Calls PG 49 #[.pointer (some ⟨b,o,none⟩),i64 (a:Nat),i64 (d:Nat)] w fun e w'=>e = .returned (.bool (zh r a d))/\w=w':=by
 refine zI 17 [.pointer (some ⟨b,o,none⟩),i64 (a:Nat),i64 (d:Nat)] Tryz.func49 ?_;exact⟨a,rfl,ha,_,hc a ha,by omega,_,zey (a:=r.to a) (k:=d) (by omega),_,jI (a:=r.to a/2^d) (b:=1) (KE (Nat.div_le_self _ _) (hr a ha)) (by decide),rb znZ,rfl⟩
theorem zff {e:Ev}:Calls PG 87 #[.agg (evE.enc e).toArray] w fun r w'=>r = .returned (.bool (decide (e.k=1)||decide (e.k=2)))/\Bw w w':=by
 refine zI 11 [.agg (evE.enc e).toArray] Tryz.func87 ?_;have f:=zu w (.cells (evE.enc e).toArray 49);have hb:Bw w (w.alloc (.cells (evE.enc e).toArray 49)):=zba w _;refine⟨u8 e.k,zc (za f) (i:=1) rfl,biE (fun h=>?_) fun h=>?_⟩
 ·have h:e.k=1:=qr.1 (dT h);exact⟨rb (by rw [Us h];rfl),hb⟩
 ·have h:¬ e.k=1:=fun e2=>(dF h) (by rw [e2];rfl);refine⟨u8 e.k,zc (za f) (i:=1) rfl,rb ?_,hb⟩;rw [Uh h,Uv];exact QG.2 (qr (x:=e.k) (y:=2))
theorem zmf {n g:Nat} {caps:Array Value} {p:Nat->Nat->Bool} (hn:n<=48) (hok:jS (sg 0) g=true)
  (hp:∀ a d X,a<n->d<n->Bw w X->Calls PG g (i64 (a:Nat)::i64 (d:Nat)::caps.toList).toArray X fun e Y=>e = .returned (.bool (p a d))/\Bw X Y) :
  CB 47 #[i64 n,.func (.func g) #[] caps] w (.agg (zf (zbN n p)).toArray):=by
 refine qj 34 [i64 n,.func (.func g) #[] caps] (.c .p (.c .p (.c .p .p))) Tryz.func47 ?_;obtain⟨L,hL⟩:=nm (w.heap.size);refine⟨Unit,fun _=>⟨[(0,i64 n),(1,.func (.func g) #[] caps),(4,At0 L)],[]⟩,fun _ X=>zS X L zw/\X.heap.size=L+1/\Bw w X,?_,?_⟩
 ·exact⟨(),⟨.cons rfl (.cons rfl (.cons (by rw [hL];rfl) .nil)),rfl⟩,by rw [hL];exact zu w _,by rw [hL];exact wz _ _,(zba w _)⟩
 rintro _ X ⟨f0,sX,hbX⟩;refine⟨Unit,fun _=>⟨[(0,i64 n),(1,.func (.func g) #[] caps),(4,At0 L),(5,At0 (L+1))],[]⟩,fun _ Y=>zS Y (L+1) ⟨n,jL n p 0 0⟩/\Y.heap.size=L+2/\Bw X Y,?_,?_⟩
 ·refine⟨zf ⟨n,fun _=>0⟩,by kernel_rfl,?_⟩;refine zo (X:=X) (v := .agg (zf ⟨n,fun _=>0⟩).toArray) k39 (zg _) (by kernel_rfl) (zC _) fun Z hbZ fZ sZ=>?_;rw [sX] at fZ sZ;exact⟨(),⟨.cons rfl (.cons rfl (.cons rfl (.cons (by rw [<- sX];rfl) .nil))),rfl⟩,by rw [zl5];exact fZ,sZ,hbZ⟩
 rintro _ Y ⟨f1,sY,hbY⟩;have hbwY:=zst hbX hbY;have f0:=zb hbY f0;refine⟨Unit,fun _=>⟨[(4,At0 L),(5,At0 (L+1))],[]⟩,fun _ Z=>zS Z (L+1) (zbN n p)/\zS Z L zw/\Bw w Z,?_,?_⟩
 ·refine⟨Nat,fun a=>⟨[(0,i64 n),(1,.func (.func g) #[] caps),(4,At0 L),(5,At0 (L+1)),(10,i64 n),(11,i64 (a:Nat))],[]⟩,fun a Z=>a<=n/\zS Z (L+1) ⟨n,jL n p a 0⟩/\zS Z L zw/\Bw w Z,fun a=>n-a,0,
   (cvE rfl rfl),⟨Gb _,f1,f0,hbwY⟩,?_⟩
  rintro a Z ⟨ha,f1,f0,hbZ⟩;dsimp only at f1 ⊢;refine biE (fun hc=>?_) fun hc=>?_
  ·have hc:(a:Int)<(n:Int):=dT hc;have han:a<n:=by omega
   refine⟨Nat,fun d=>⟨[(0,i64 n),(1,.func (.func g) #[] caps),(4,At0 L),(5,At0 (L+1)),(6,i64 (a:Nat)),(10,i64 n),(11,i64 (a:Nat)),(14,i64 n),(15,i64 (d:Nat))],[]⟩,fun d V=>d<=n/\zS V (L+1) ⟨n,jL n p a d⟩/\zS V L zw/\Bw w V,fun d=>n-d,0,
    (cvE rfl rfl),⟨Gb _,f1,f0,hbZ⟩,?_⟩
   clear f1 f0 hbZ;rintro d V ⟨hd,f1,f0,hbV⟩;dsimp only at f1 ⊢;refine biE (fun hc=>?_) fun hc=>?_
   ·have hc:(d:Int)<(n:Int):=dT hc;have hdn:d<n:=(by omega);refine zhX hok (hp a d V han hdn hbV) ?_;rintro e U ⟨rfl,hbU⟩;refine⟨_,rfl,?_⟩;have f1:=zb hbU f1;have f0:=zb hbU f0;have hbU2:=zst hbV hbU;have sU:=hbU2.size;refine biE (fun h=>?_) fun h=>?_
    ·have h:p a d=true:=h;have hR:RelAt U (L+1) 0 39 [] [] ⟨n,jL n p a d⟩:=⟨rfl,by simpa using f1⟩;have dU:Bw U U.drew:=(Gd _ _).drew;have ha48:a<48:=(by omega);refine DrawE.ord [9] [0,1,2,3,4,5,6,7,8,9] (by kernel_rfl) ⟨a,rfl,ha48,s64 (jL n p a d a),(hR.same (Y:=U.drew) rfl).cell ha48,by omega,_,jZ (e:=d) (by omega),_,zaf (zop (by omega) (by omega) a ha48) (z3 (by omega)),a,rfl,ha48,zn k36 (hR.same (Y:=U.drew) rfl).cells (o:=0+1+a*1) (v:=s64 (jL n p a d a|||2^d)) rfl rfl (by rw [hR.len];omega) rfl fun S fS gS sS=>?_⟩;rw [hR.set ha48] at fS;have e5:upd (jL n p a d) a (jL n p a d a|||2^d)=jL n p a (d+1):=zoq h;dsimp only at fS;rw [e5] at fS;have gS2:U.grownBy S (some (L+1)):=zd (zi dU) gS;exact nxI (by omega) ⟨d+1,(cvE rfl rfl),⟨hdn,by simpa using fS,(gS2.block L (hlt f0) (by simp)).trans f0,hbU2.trans (zk gS2 sU (by omega))⟩,zdc (by omega)⟩
    ·have h:p a d=false:=h;exact nxI (by omega) ⟨d+1,(cvE rfl rfl),⟨hdn,by rw [<- zl6 h];exact f1,f0,hbU2⟩,zdc (by omega)⟩
   ·have hc:¬ (d:Int)<(n:Int):=dF hc;obtain rfl:d=n:=(by omega);exact nxI (by omega) ⟨a+1,(cvE rfl rfl),⟨han,by rw [<- zl7];exact f1,f0,hbV⟩,zdc (by omega)⟩
  ·have hc:¬ (a:Int)<(n:Int):=dF hc;obtain rfl:a=n:=by omega
   rw [zor] at f1;exact⟨(),(cvE rfl rfl),f1,f0,hbZ⟩
 rintro _ Z ⟨f1,f0,hbZ⟩;exact⟨zf (zbN n p),zg _,za f1,hlt f1,zt (v := .agg (zf (zbN n p)).toArray) k39 f0 (zg _) (zg _) (zC _) ⟨zf (zbN n p),zg _,za (zm f0),rfl,zl hbZ (by omega) _⟩⟩
def ztu:Enc RelD:=⟨zf,49,zg,by decide,fun a u hu=>Qj.1 (zC a) u hu⟩
theorem zcM {l:List RelD}:∀ {r:RelD},zH r.to->(∀ o∈l,zH o.to)->zH (qb r l).to:=by
 induction l with
 | nil=>exact fun h _=>h
 | cons o l ih=>exact fun h hl=>ih (zn8 h (hl o Kz)) fun x hx=>hl x (JY _ hx)
theorem zi9 {r:RelD} {l:List RelD} {pm:OA} {cm:Nat} (hr:zH r.to) (hl:SlR ztu w pm l) (hw:∀ o∈l,zH o.to) (hn:l.length<=1000) :
  CB 52 #[.agg (zf r).toArray,.slice pm l.length cm] w (.agg (zf (qb r l)).toArray):=by
 refine qj 21 [.agg (zf r).toArray,.slice pm l.length cm] (.c .p (.c .p .p)) Tryz.func52 ?_;obtain⟨L,hL⟩:=nm (w.heap.size);refine⟨Unit,fun _=>⟨[(1,.slice pm l.length cm),(2,At0 L),(4,At0 (L+1))],[]⟩,fun _ X=>zS X L r/\zS X (L+1) zw/\Bw w X,?_,?_⟩
 ·have s1:=wz w (.cells (zf r).toArray 39);have h2:=zu (w.alloc (.cells (zf r).toArray 39)) (.cells (zf zw).toArray 39);rw [s1] at h2;refine⟨(),⟨.cons rfl (.cons (by rw [hL];rfl) (.cons (by rw [hL,<- s1];rfl) .nil)),rfl⟩,by rw [hL];exact qB _ (zu w _),by rw [hL];exact h2,((zba w _)).alloc (by simp) _⟩
 rintro _ X ⟨f0,f1,hbX⟩;refine⟨Unit,fun _=>⟨[(2,At0 L),(4,At0 (L+1))],[]⟩,fun _ Z=>zS Z L (qb r l)/\zS Z (L+1) zw/\Bw w Z,?_,?_⟩
 ·refine⟨Nat,fun k=>⟨[(2,At0 L),(4,At0 (L+1)),(7,.slice pm l.length cm),(8,i64 l.length),(9,i64 (k:Nat))],[]⟩,fun k Z=>k<=l.length/\zS Z L (qb r (l.take k))/\zS Z (L+1) zw/\Bw w Z,fun k=>l.length-k,0,
   (cvE rfl rfl),⟨Gb _,f0,f1,hbX⟩,?_⟩
  clear f0 f1 hbX;rintro k Z ⟨hk,f0,f1,hbZ⟩;dsimp only;have hZs:=hbZ.size;refine biE (fun hc=>?_) fun hc=>?_
  ·have hc:(k:Int)<(l.length:Int):=dT hc;have hkl:k<l.length:=by omega
   obtain⟨b,o,rfl,hb,hat⟩:=hl.at hkl;obtain⟨t,ht⟩:∃ t,l[k]=t:=⟨_,rfl⟩;have htm:t∈l:=by rw [<- ht];exact gM hkl
   have htk:qb r (l.take (k+1))=(ju (qb r (l.take k)) t).1:=by
    unfold qb;rw [tsg hkl,ht,KT];rfl
   have hut:zH (qb r (l.take k)).to:=zcM hr fun o ho=>hw o (Ka ho);refine⟨k,rfl,hkl,zf t,zg _,by rw [<- ht];exact zq hbZ (hat k hkl),nL hb hZs,zo (X:=Z) (v := .agg (zf t).toArray) k39 (zg _) (by kernel_rfl) (zC _) fun Y hbY fY sY=>?_⟩;have fY:zS Y Z.heap.size t:=fY;have f0:=zb hbY f0;have f1:=zb hbY f1;refine⟨zf (qb r (l.take k)),zg _,za f0,hlt f0,zf t,zg _,za fY,hlt fY,cmo (zgI hut (hw t htm)) ?_⟩;rintro e V ⟨rfl,hbV⟩;have f0:=zb hbV f0;have f1:=zb hbV f1;refine zt (v := .agg (zf (ju (qb r (l.take k)) t).1).toArray) k39 f0 (zg _) (zg _) (zC _) (nxI (by omega) ?_);have hbV2:=(hbZ.trans (hbY.mono hZs)).trans (hbV.mono (by have:=hbY.size;omega));exact⟨k+1,(cvE rfl rfl),⟨hkl,by rw [htk];exact zm f0,(zp (by omega)).trans f1,zl hbV2 (by omega) _⟩,zdc (by omega)⟩
  ·have hc:¬ (k:Int)<(l.length:Int):=dF hc;obtain rfl:k=l.length:=by omega
   rw [Qw] at f0;exact⟨(),(cvE rfl rfl),f0,f1,hbZ⟩
 rintro _ Z ⟨f0,f1,hbZ⟩;exact⟨zf (qb r l),zg _,za f0,hlt f0,zt (v := .agg (zf (qb r l)).toArray) k39 f1 (zg _) (zg _) (zC _) ⟨zf (qb r l),zg _,za (zm f1),rfl,zl hbZ (by omega) _⟩⟩
end
section
variable {w:Wd} {b c:Nat} {x:ExD} {q:OA}
theorem zfI {X:Wd} {o:Nat} {r:RelD} (fx:zF X ⟨b,0,none⟩ (exC x q c)) (h:∃ A T,A.length=o/\exC x q c=A++(zf r++T)):∀ i,i<48->X.cell? ⟨b,o+1+i*1,none⟩=some (s64 (r.to i)):=by
 intro i hi;obtain⟨A,T,hA,hE⟩:=h;have:(exC x q c)[o+1+i*1]?=some (s64 (r.to i)):=by
  rw [hE,UZ,UE,qT hA,Jr (by rw [zg];omega),zeH r hi]
 have h2:=zc fx this;rw [US] at h2;exact h2
theorem zqt (x:ExD) (q:OA) (c:Nat):∃ A T,A.length=1/\exC x q c=A++(zf x.po++T):=by
 obtain⟨A,T,hA,hE⟩:=znE x q c [];exact⟨A,T,hA,by rw [<- hE,QK]⟩
theorem ztT (x:ExD) (q:OA) (c:Nat):∃ A T,A.length=148/\exC x q c=A++(zf x.dt++T):=by
 obtain⟨A,T,hA,hE⟩:=znF x q c [];exact⟨A,T,hA,by rw [<- hE,QK]⟩
theorem ztU (x:ExD) (q:OA) (c:Nat):∃ A T,A.length=197/\exC x q c=A++(zf x.ct++T):=by
 obtain⟨A,T,hA,hE⟩:=znG x q c [];exact⟨A,T,hA,by rw [<- hE,QK]⟩
theorem zqs (x:ExD) (q:OA) (c:Nat):∃ A T,A.length=246/\exC x q c=A++(zf x.rm++T):=by
 obtain⟨A,T,hA,hE⟩:=znC x q c [];exact⟨A,T,hA,by rw [<- hE,QK]⟩
theorem zjY (x:ExD) (i:Nat):(decide ((evA x i).k=1)||decide ((evA x i).k=2))=zaE x i:=rfl
theorem zck {X:Wd} (hv:SlR evE X q x.ev) {a:Nat} (ha:a<x.ev.length):∃ bq oq,q=some ⟨bq,oq,none⟩/\bq<X.heap.size/\zF X ⟨bq,oq+a*7,none⟩ (evE.enc (evA x a)):=zcl hv ha
theorem zpE {a d:Nat} (fx:zF w ⟨b,0,none⟩ (exC x q c)) (hv:SlR evE w q x.ev) (ha:a<x.ev.length) (hd:d<x.ev.length) :
  CB 50 #[At0 b,i64 (a:Nat),i64 (d:Nat)] w (.bool (zbF x a d)):=by
 refine qj 44 [At0 b,i64 (a:Nat),i64 (d:Nat)] (.c .p .p) Tryz.func50 ?_;refine⟨Unit,fun _=>⟨[(0,At0 b),(1,i64 (a:Nat)),(2,i64 (d:Nat))],[]⟩,fun _ X=>w=X,⟨(),(cvE rfl rfl),rfl⟩,?_⟩;rintro _ _ rfl;obtain⟨bq,oq,hqe,hb,hat⟩:=zck hv ha;obtain⟨bq2,oq2,hqe2,hb2,hat2⟩:=zck hv hd;rw [hqe] at hqe2;simp only [KZ,Uu,Gk] at hqe2;rw [<- hqe2.1,<- hqe2.2] at hat2;subst hqe;have dw:Bw w w.drew:=(Gd _ _).drew;refine DrawE.ord [] [0,1,2,3,4,5,6,7,8,9,10,11,12,13,14,15,16,17,18,19,20,21,22,23,24,25,26,27,28,29,30,31,32,33,34,35,36,37] (by kernel_rfl) ⟨_,j5 (zq dw fx),a,rfl,ha,evE.enc (evA x a),rfl,zq dw hat,nL hb dw.size,cmo zff ?_⟩;rintro e X ⟨rfl,hbX⟩;refine⟨hbX,?_⟩;have bX:=dw.trans hbX;rw [zjY];refine biE (fun h1=>?_) fun h1=>?_
 ·have h1:zaE x a=true:=h1;refine⟨_,j5 (zq bX fx),d,rfl,hd,evE.enc (evA x d),rfl,zq bX hat2,nL hb bX.size,cmo zff ?_⟩;rintro e Y ⟨rfl,hbY⟩;refine⟨hbY,?_⟩;have bY:=zst bX hbY;rw [zjY];refine biE (fun h2=>?_) fun h2=>?_
  ·have h2:zaE x d=true:=h2;refine⟨_,j5 (zq bY fx),a,rfl,ha,u8 (evA x a).l,by have:=zc (zq bY hat) (i:=2) (v:=u8 (evA x a).l) rfl;exact this,_,j5 (zq bY fx),d,rfl,hd,u8 (evA x d).l,by have:=zc (zq bY hat2) (i:=2) (v:=u8 (evA x d).l) rfl;exact this,rb ?_,bY⟩;unfold zbF;rw [h1,h2,Uy,Uy];exact QG.2 qr
  ·have h2:zaE x d=false:=h2;refine⟨rb ?_,bY⟩;unfold zbF;rw [h1,h2];rfl
 ·have h1:zaE x a=false:=h1;refine brF ⟨rb ?_,bX⟩;unfold zbF;rw [h1];rfl
end
structure ScnV (X:Wd) (b:Nat) (x:ExD) (q:OA) (c:Nat) (f l s:RelD):Prop where
 h:X.heap[b]?=some (.cells (exC x q c++(zf f++(zf l++zf s))).toArray 157 (0,0))
 v:ExW X x q
 wf:zH f.to
 wl:zH l.to
 ws:zH s.to
section
variable {w:Wd} {b c:Nat} {x:ExD} {q:OA} {f l s:RelD}
theorem ScnV.below {X Y:Wd} (h:ScnV X b x q c f l s) (hb:Bw X Y):ScnV Y b x q c f l s:=⟨zb hb h.h,h.v.below hb,h.wf,h.wl,h.ws⟩
theorem ScnV.cells {X:Wd} (h:ScnV X b x q c f l s):zF X ⟨b,0,none⟩ (exC x q c):=by
 have:=zT (n:=0) (m:=333) (za h.h);have e:((exC x q c++(zf f++(zf l++zf s))).toArray.toList.drop 0).take 333=exC x q c:=by
  show (exC x q c++_).take 333=_;rw [Jg (by rw [zA];decide),JH (by rw [zA];decide)]
 rw [e] at this;exact this
theorem ScnV.at {X:Wd} {o:Nat} {r:RelD} (h:ScnV X b x q c f l s) (hr:∃ A T,A.length=o/\exC x q c++(zf f++(zf l++zf s))=A++(zf r++T)):∀ i,i<48->X.cell? ⟨b,o+1+i*1,none⟩=some (s64 (r.to i)):=by
 intro i hi;obtain⟨A,T,hA,hE⟩:=hr;have:(exC x q c++(zf f++(zf l++zf s)))[o+1+i*1]?=some (s64 (r.to i)):=by
  rw [hE,UZ,UE,qT hA,Jr (by rw [zg];omega),zeH r hi]
 have h2:=zc (za h.h) this;rw [US] at h2;exact h2
theorem ScnV.full {X:Wd} (h:ScnV X b x q c f l s):∀ i,i<48->X.cell? ⟨b,0+333+1+i*1,none⟩=some (s64 (f.to i)):=h.at ⟨exC x q c,zf l++zf s,zA _ _ _,rfl⟩
theorem ScnV.loads {X:Wd} (h:ScnV X b x q c f l s):∀ i,i<48->X.cell? ⟨b,0+382+1+i*1,none⟩=some (s64 (l.to i)):=h.at ⟨exC x q c++zf f,zf s,by rw [lap,zA,zg],by rw [KO]⟩
theorem ScnV.stores {X:Wd} (h:ScnV X b x q c f l s):∀ i,i<48->X.cell? ⟨b,0+431+1+i*1,none⟩=some (s64 (s.to i)):=h.at ⟨exC x q c++(zf f++zf l),[],by rw [lap,lap,zA,zg,zg],by simp only [KO,QK]⟩
theorem zed {a:Nat} (h:ScnV w b x q c f l s) (ha:a<x.ev.length):Calls PG 123 #[At0 b,i64 (a:Nat)] w fun e w'=>e = .returned (.bool (isR x a))/\w=w':=by
 refine zI 15 [At0 b,i64 (a:Nat)] Tryz.func123 ?_;obtain⟨bq,oq,hqe,hb,hat⟩:=zck h.v.ev ha;have fx:=h.cells;subst hqe;exact⟨_,j5 fx,a,rfl,ha,u8 (evA x a).k,by have:=zc hat (i:=1) (v:=u8 (evA x a).k) rfl;exact this,rb (QG.2 (qr (x:=(evA x a).k) (y:=1))),rfl⟩
theorem jz {a:Nat} (h:ScnV w b x q c f l s) (ha:a<x.ev.length):Calls PG 124 #[At0 b,i64 (a:Nat)] w fun e w'=>e = .returned (.bool (isW x a))/\w=w':=by
 refine zI 15 [At0 b,i64 (a:Nat)] Tryz.func124 ?_;obtain⟨bq,oq,hqe,hb,hat⟩:=zck h.v.ev ha;have fx:=h.cells;subst hqe;exact⟨_,j5 fx,a,rfl,ha,u8 (evA x a).k,by have:=zc hat (i:=1) (v:=u8 (evA x a).k) rfl;exact this,rb (QG.2 (qr (x:=(evA x a).k) (y:=2))),rfl⟩
theorem zdd {a:Nat} {md:UInt8} (h:ScnV w b x q c f l s) (ha:a<x.ev.length):Calls PG 128 #[At0 b,i64 (a:Nat),u8 md] w fun e w'=>e = .returned (.bool (zZ x a md))/\w=w':=by
 refine zI 30 [At0 b,i64 (a:Nat),u8 md] Tryz.func128 ?_;obtain⟨bq,oq,hqe,hb,hat⟩:=zck h.v.ev ha;have fx:=h.cells;subst hqe;refine⟨_,j5 fx,a,rfl,ha,u8 (evA x a).m,by have:=zc hat (i:=4) (v:=u8 (evA x a).m) rfl;exact this,biE (fun h1=>?_) fun h1=>?_⟩
 ·have h1:(evA x a).m=md:=qr.1 (dT h1);exact⟨rb (by unfold zZ;rw [Us h1];rfl),rfl⟩
 ·have h1:¬ (evA x a).m=md:=fun e=>(dF h1) (by rw [e]);exact⟨_,j5 fx,a,rfl,ha,u8 (evA x a).m,by have:=zc hat (i:=4) (v:=u8 (evA x a).m) rfl;exact this,rb (by unfold zZ;rw [Uh h1,Uv];exact QG.2 (qr (x:=(evA x a).m) (y:=3))),rfl⟩
theorem znX {a d:Nat} (h:ScnV w b x q c f l s) (ha:a<x.ev.length) (hd:d<x.ev.length):Calls PG 125 #[At0 b,i64 (a:Nat),i64 (d:Nat)] w fun e w'=>e = .returned (.bool (zaw x f a d))/\w=w':=by
 refine zI 23 [At0 b,i64 (a:Nat),i64 (d:Nat)] Tryz.func125 ?_;have hn:=h.v.n;refine cmo (zX h.full h.wf (by omega) (by omega)) ?_;rintro e _ ⟨rfl,rfl⟩;refine biE (fun h1=>?_) fun h1=>?_
 ·have h1:zh f a d=true:=h1;exact brT ⟨rb (by unfold zaw;rw [h1];rfl),rfl⟩
 have h1:zh f a d=false:=h1;refine cmo (zdd (md:=3) h ha) ?_;rintro e _ ⟨rfl,rfl⟩;refine biE (fun h2=>?_) fun h2=>?_
 ·have h2:zZ x a 3=true:=h2;exact⟨rb (by unfold zaw;rw [h1,h2];rfl),rfl⟩
 have h2:zZ x a 3=false:=h2;refine cmo (zdd (md:=3) h hd) ?_;rintro e _ ⟨rfl,rfl⟩;exact⟨rb (by unfold zaw;rw [h1,h2];rfl),rfl⟩
end
abbrev orG (l:List Nat):Nat:=l.foldl (fun s i=>s|||2^i) 0
theorem zpU (l:List Nat) (i:Nat):orG (l++[i])=orG l|||2^i:=by
 unfold orG;rw [KT];rfl
theorem znq:∀ (l:List Nat) (s:Nat),s<2^64->(∀ i∈l,i<64)->l.foldl (fun s i=>s|||2^i) s<2^64
 | [],s,h,_=>h
 | i::l,s,h,hl=>znq l (s|||2^i) (KY h (z3 (hl i Kz))) fun j hj=>hl j (JY _ hj)
theorem zpV {l:List Nat} (hl:∀ i∈l,i<64):orG l<2^64:=znq l 0 (by decide) hl
section
variable {w:Wd}
theorem zvw {p:OA} {cp:Nat} {l:List Nat} (hl:SlR zB w p l) (h64:∀ i∈l,i<64) (hn:l.length<=1000):Calls PG 118 #[.slice p l.length cp] w fun e w'=>e = .returned (.tuple #[s64 (orG l),i64 0])/\w=w':=by
 refine zI 25 [.slice p l.length cp] Tryz.func118 ?_;refine⟨Nat,fun k=>⟨[(4,s64 (orG (l.take k))),(7,.slice p l.length cp),(8,i64 l.length),(9,i64 (k:Nat))],[]⟩,fun k X=>k<=l.length/\w=X,fun k=>l.length-k,0,(cvE rfl rfl),⟨Gb _,rfl⟩,?_⟩;rintro k _ ⟨hk,rfl⟩;dsimp only;refine biE (fun hc=>?_) fun hc=>?_
 ·have hc:(k:Int)<(l.length:Int):=dT hc;have hkl:k<l.length:=by omega
  obtain⟨b,o,rfl,hb,hat⟩:=hl.at hkl;obtain⟨t,ht⟩:∃ t,l[k]=t:=⟨_,rfl⟩;have ht64:=h64 t (by rw [<- ht];exact gM hkl);have htk:orG (l.take (k+1))=orG (l.take k)|||2^t:=by rw [tsg hkl,ht,zpU]
  refine⟨k,rfl,hkl,i64 t,by have:=zc (hat k hkl) (i:=0) (v:=i64 t) (by rw [ht];rfl);exact this,biE (fun h=>?_) fun _=>?_⟩
  ·have h:(t:Int)<0:=dT h;omega
  refine biE (fun h=>?_) fun _=>?_
  ·have h:(64:Int)<=(t:Nat):=dT h;omega
  exact⟨by omega,_,jZ (e:=t) (by omega),_,zaf (zpV fun i hi=>h64 i (Ka hi)) (z3 ht64),nxI (by omega) ⟨k+1,⟨.cons (by show _=some (s64 (orG (l.take (k+1))));rw [htk];rfl) (.cons rfl (.cons rfl (.cons rfl .nil))),rfl⟩,⟨hkl,rfl⟩,zdc (by omega)⟩⟩
 ·have hc:¬ (k:Int)<(l.length:Int):=dF hc;obtain rfl:k=l.length:=by omega
  rw [Qw];exact⟨rfl,rfl⟩
end
section
variable {b c:Nat} {x:ExD} {q:OA} {w:Wd}
theorem zqo (hv:ExW w x q) (hT:Tz64M w):zH (zQ x.rf).to/\zH (frM x).to:=by
 have h1:zH (zQ x.rf).to:=by
  unfold zQ
  split
  ·rename_i h;intro i hi;refine Qz fun hge=>?_;obtain⟨j,hj1,hj2⟩:=Ja hge;rw [show ((⟨x.rf.n,zaD x.rf.to x.rf.n.toNat⟩:RelD).to i)=zaD x.rf.to x.rf.n.toNat i from rfl,zfS,bAT,dE] at hj2;have h48:=(q9 h).2.1;omega
  ·exact fun i _=>(by show 0<2^64;decide)
 exact⟨h1,zdb h1 hv.co⟩
theorem zuL (fx:ExH w b x q c) (hv:ExW w x q) (hT:Tz64M w):CB 37 #[At0 b] w (.agg (zf (frM x)).toArray):=by
 refine qj 19 [At0 b] (.c .p (.c .p .p)) Tryz.func37 ?_;obtain⟨L,hL⟩:=nm (w.heap.size);obtain⟨wb,wf⟩:=zqo hv hT;refine⟨Unit,fun _=>⟨[(0,At0 b),(2,At0 L)],[]⟩,fun _ X=>zS X L zw/\Bw w X,⟨(),⟨.cons rfl (.cons (by rw [hL];rfl) .nil),rfl⟩,by rw [hL];exact zu w _,(zba w _)⟩,?_⟩;rintro _ X ⟨f0,hbX⟩;refine⟨Nat,fun F=>⟨[(2,At0 L),(3,At0 F)],[]⟩,fun F Z=>zS Z F (frM x)/\zS Z L zw/\Bw w Z,?_,?_⟩
 ·have dX:Bw X X.drew:=(Gd _ _).drew;have fX:=hdr (zb hbX fx);have hba:∀ (A:Wd) (o:Obj),Bw A (A.alloc o):=fun A o=>(zba _ _);have put:∀ (W:Wd) (b3:Nat),Bw X W->zS W b3 zw->X.heap.size<=b3->∀ {K:Wd->Prop},(∀ V,(zS V b3 (frM x)/\zS V L zw/\Bw w V)->K V) ->
    SatR ((storeVar 39 ⟨b3,0,none⟩ (.agg (zf (frM x)).toArray)).run PG W) fun _ w'=>K w':=by
   intro W b3 hW f3 g3 K k;refine zt (v := .agg (zf (frM x)).toArray) k39 f3 (zg _) (zg _) (zC _) ?_;have hL2:=hlt f0;exact k _ ⟨zm f3,(zp (by omega)).trans (zb hW f0),zl ((zst hbX hW)) (by have:=hbX.size;omega) _⟩
  refine DrawE.treeQ [14] (.op 0 (.op 1 (.op 2 (.op 3 (.op 5 (.op 6 (.op 7 (.op 8 (.alt (.op 13 (.op 4 (.op 9 (.op 10 (.op 11 (.op 12 (.op 14 (.op 15 (.nil))))))))) (.op 4 (.alt (.op 13 (.op 9 (.op 10 (.op 11 (.op 12 (.op 14 (.op 15 (.nil)))))))) (.op 9 (.op 10 (.op 11 (.op 12 (.op 13 (.op 14 (.op 15 (.nil))))))))))))))))))) (by kernel_rfl) ⟨zf x.rf,zg _,qO fX (i:=1) (by decide) rfl,hlt fX,zf x.co,zg _,qO fX (i:=2) (by decide) rfl,hlt fX,Gi ?_ ?_⟩
  ·refine⟨hba _ _,?_⟩;have b1:=dX.alloc (UY _) (.cells (zf zw).toArray 39);refine cmo (zh7 hv.rf (hT.below ((zst hbX b1)))) ?_;rintro e Y ⟨rfl,hbY,_⟩;refine⟨hbY,?_⟩;have b2:=zst b1 hbY;refine cmo (zcm wb hv.co (hT.below ((zst hbX b2)))) ?_;rintro e Z ⟨rfl,hbZ⟩;exact⟨hbZ,put Z X.heap.size ((zst b2 hbZ)) (zb hbZ (zb hbY (zu X.drew _))) (UY _) (fun V hV=>⟨X.heap.size,(cvE rfl rfl),hV⟩)⟩
  refine cmo (zh7 hv.rf (hT.below ((zst hbX dX)))) ?_;rintro e Y ⟨rfl,hbY,_⟩;refine⟨hbY,?_⟩;have b1:=zst dX hbY;refine Gi ?_ ?_
  ·refine⟨hba _ _,?_⟩;have b2:=b1.alloc b1.size (.cells (zf zw).toArray 39);refine cmo (zcm wb hv.co (hT.below ((zst hbX b2)))) ?_;rintro e Z ⟨rfl,hbZ⟩;exact⟨hbZ,put Z Y.heap.size ((zst b2 hbZ)) (zb hbZ (zu Y _)) b1.size (fun V hV=>⟨Y.heap.size,(cvE rfl rfl),hV⟩)⟩
  ·refine cmo (zcm wb hv.co (hT.below ((zst hbX b1)))) ?_;rintro e Z ⟨rfl,hbZ⟩;refine⟨hbZ,?_⟩;have b2:=zst b1 hbZ;exact⟨hba _ _,put _ Z.heap.size (b2.alloc b2.size _) (zu Z _) b2.size (fun V hV=>⟨Z.heap.size,(cvE rfl rfl),hV⟩)⟩
 rintro F Z ⟨f1,f0,hbZ⟩;exact⟨zf (frM x),zg _,za f1,hlt f1,zt (v := .agg (zf (frM x)).toArray) k39 f0 (zg _) (zg _) (zC _) ⟨zf (frM x),zg _,za (zm f0),rfl,zl hbZ (by omega) _⟩⟩
end
section
variable {b c:Nat} {x:ExD} {q:OA} {w:Wd}
theorem ztS {r:RelD} {a d R B:Nat} (fR:zS w R r) (hr:zH r.to) (fB:w.heap[B]?=some (.cells #[At0 b] 81 (0,0))) (fx:ExH w b x q c) (hv:ExW w x q) (ha:a<x.ev.length) (hd:d<x.ev.length) :
  CB 92 #[i64 (a:Nat),i64 (d:Nat),At0 R,At0 B] w (.bool (zh r a d && !decide ((evA x a).th=(evA x d).th))):=by
 refine zI 29 [i64 (a:Nat),i64 (d:Nat),At0 R,At0 B] Tryz.func92 ?_;have hn:=hv.n;obtain⟨bq,oq,hqe,hb,hat⟩:=zck hv.ev ha;obtain⟨bq2,oq2,hqe2,hb2,hat2⟩:=zck hv.ev hd;rw [hqe] at hqe2;simp only [KZ,Uu,Gk] at hqe2;rw [<- hqe2.1,<- hqe2.2] at hat2;subst hqe;have dw:Bw w w.drew:=(Gd _ _).drew;refine DrawE.ord [] [0,1,2,3,4,5,6,7,8,9,10,11,12,13,14,15,16,17,18,19,20,21,22] (by kernel_rfl) (cmo (zX (zix (hdr fR)) hr (by omega) (by omega)) ?_);rintro e _ ⟨rfl,rfl⟩;refine⟨Gd _ _,biE (fun h1=>?_) fun h1=>?_⟩
 ·have h1:zh r a d=true:=h1;exact⟨At0 b,zc (za (hdr fB)) (i:=0) rfl,_,j5 (za (hdr fx)),a,rfl,ha,i64 (evA x a).th,by have:=zc (zq dw hat) (i:=0) (v:=i64 (evA x a).th) rfl;exact this,At0 b,zc (za (hdr fB)) (i:=0) rfl,_,j5 (za (hdr fx)),d,rfl,hd,i64 (evA x d).th,by have:=zc (zq dw hat2) (i:=0) (v:=i64 (evA x d).th) rfl;exact this,rb (by rw [h1,Uy]),dw⟩
 ·have h1:zh r a d=false:=h1;exact⟨rb (by rw [h1,Uj]),dw⟩
theorem zo4 {a d B:Nat} (fB:w.heap[B]?=some (.cells #[At0 b] 81 (0,0))) (fx:ExH w b x q c) (hv:ExW w x q) (ha:a<x.ev.length) (hd:d<x.ev.length) :
  CB 48 #[i64 (a:Nat),i64 (d:Nat),At0 B] w (.bool (zh x.po a d&&zbF x a d)):=by
 refine zI 18 [i64 (a:Nat),i64 (d:Nat),At0 B] Tryz.func48 ?_;have hn:=hv.n;refine⟨At0 b,zc (za fB) (i:=0) rfl,cmo (zX (zfI (za fx) (zqt x q c)) hv.po (by omega) (by omega)) ?_⟩;rintro e _ ⟨rfl,rfl⟩;refine biE (fun h1=>?_) fun h1=>?_
 ·have h1:zh x.po a d=true:=h1;refine⟨At0 b,zc (za fB) (i:=0) rfl,cmo (zpE (za fx) hv.ev ha hd) ?_⟩;rintro e X ⟨rfl,hb⟩;exact⟨rb (by rw [h1,Uy]),hb⟩
 ·have h1:zh x.po a d=false:=h1;exact⟨rb (by rw [h1,Uj]),Gd _ _⟩
theorem zuN {r:RelD} (fx:ExH w b x q c) (hv:ExW w x q) (hr:zH r.to) (hn:r.n=x.ev.length) :
  CB 56 #[At0 b,.agg (zf r).toArray] w (.agg (zf (zd0 x r)).toArray):=by
 refine qj 9 [At0 b,.agg (zf r).toArray] (.c .p (.c .p .p)) Tryz.func56 ?_;obtain⟨L,hL⟩:=nm (w.heap.size);have h19:=hv.n;refine⟨Unit,fun _=>⟨[(2,At0 L),(3,At0 (L+1)),(4,At0 (L+2))],[]⟩,fun _ X=>X.heap[L]?=some (.cells #[At0 b] 81 (0,0))/\zS X (L+1) r/\zS X (L+2) zw/\Bw w X,?_,?_⟩
 ·have s1:=wz w (.cells #[At0 b] 81);have s2:=wz (w.alloc (.cells #[At0 b] 81)) (.cells (zf r).toArray 39);have b1:Bw w (w.alloc (.cells #[At0 b] 81)):=zba w _;have b2:=b1.alloc b1.size (.cells (zf r).toArray 39);have h1:=zu w (.cells #[At0 b] 81);have h2:=zu (w.alloc (.cells #[At0 b] 81)) (.cells (zf r).toArray 39);have h3:=zu ((w.alloc (.cells #[At0 b] 81)).alloc (.cells (zf r).toArray 39)) (.cells (zf zw).toArray 39);rw [s1] at h2 s2;rw [s2] at h3;refine⟨(),⟨.cons (by rw [hL];rfl) (.cons (by rw [hL,<- s1];rfl) (.cons (by rw [hL,<- s2];rfl) .nil)),rfl⟩,by rw [hL];exact qB _ (qB _ h1),by rw [hL];exact qB _ h2,by rw [hL];exact h3,b2.alloc b2.size _⟩
 rintro _ X ⟨fB,fR,f0,hbX⟩;have fX:=zb hbX fx;have hvX:=hv.below hbX;refine⟨Unit,fun _=>⟨[(4,At0 (L+2))],[]⟩,fun _ Y=>zS Y (L+2) (zd0 x r)/\Bw w Y,?_,?_⟩
 ·refine⟨i64 r.n,by have:=zc (za fR) (i:=0) (v:=i64 r.n) rfl;exact this,?_⟩;have en:zd0 x r=zbN x.ev.length fun a d=>zh r a d && !decide ((evA x a).th=(evA x d).th):=by
   unfold zd0;rw [hn];rfl
  rw [hn];refine cmo (zmf (n:=x.ev.length) (caps := #[At0 (L+1),At0 L]) (g:=92) (p:=fun a d=>zh r a d && !decide ((evA x a).th=(evA x d).th)) (by omega) (by kernel_rfl) fun a d Z ha hd hb=>ztS (zb hb fR) hr (zb hb fB) (zb hb fX) (hvX.below hb) ha hd) ?_;rintro e Y ⟨rfl,hbY⟩;rw [<- en];have f0:=zb hbY f0;exact zt (v := .agg (zf (zd0 x r)).toArray) k39 f0 (zg _) (zg _) (zC _) ⟨(),(cvE rfl rfl),zm f0,zl ((zst hbX hbY)) (by omega) _⟩
 rintro _ Y ⟨f0,hbY⟩;exact⟨zf (zd0 x r),zg _,za f0,rfl,hbY⟩
end
section
variable {b c:Nat} {x:ExD} {q:OA} {w:Wd}
theorem zqq {md:UInt8} (fx:ExH w b x q c) (hv:ExW w x q) (hT:Tz64M w):CB 93 #[At0 b,u8 md] w (.agg (zf (zU x md)).toArray):=by
 refine qj 70 [At0 b,u8 md] (.c .p (.c .p (.c .p (.c .p (.c .p (.c .p (.c .p .p))))))) Tryz.func93 ?_;obtain⟨L,hL⟩:=nm (w.heap.size);have hn:=hv.n;obtain⟨n,hnn⟩:=nm (x.ev.length);refine⟨Unit,fun _=>⟨[(0,At0 b),(1,u8 md),(4,At0 L)],[]⟩,fun _ X=>zS X L zw/\Bw w X,⟨(),⟨.cons rfl (.cons rfl (.cons (by rw [hL];rfl) .nil)),rfl⟩,by rw [hL];exact zu w _,(zba w _)⟩,?_⟩;rintro _ X ⟨f0,hbX⟩;refine⟨Unit,fun _=>⟨[(0,At0 b),(1,u8 md),(4,At0 L),(5,i64 n)],[]⟩,fun _ Y=>X=Y,?_,?_⟩
 ·exact⟨_,zc (za (zb hbX fx)) (i:=0) rfl,(),⟨.cons rfl (.cons rfl (.cons rfl (.cons (by rw [hnn];rfl) .nil))),rfl⟩,rfl⟩
 rintro _ _ rfl;refine⟨Unit,fun _=>⟨[(0,At0 b),(1,u8 md),(4,At0 L),(5,i64 n),(6,.slice none 0 0)],[]⟩,fun _ Y=>X=Y,⟨(),(cvE rfl rfl),rfl⟩,?_⟩;rintro _ _ rfl;obtain⟨pr,hpr⟩:∃ pr:Nat->Bool,pr=fun i=>decide ((evA x i).k=3)&&decide ((evA x i).m=md):=⟨_,rfl⟩;obtain⟨B,hB⟩:=nm (X.heap.size);refine⟨OA×Nat,fun s=>⟨[(0,At0 b),(4,At0 L),(5,i64 n),(6,.slice s.1 ((List.range n).filter pr).length s.2)],[]⟩,fun s V=>OwnS zB 3 B V s.1 s.2 ((List.range n).filter pr)/\Below B X V,?_,?_⟩
 ·refine⟨_,zc (za (zb hbX fx)) (i:=0) rfl,?_⟩;refine⟨Nat×OA×Nat,fun s=>⟨[(0,At0 b),(1,u8 md),(4,At0 L),(5,i64 n),(6,.slice s.2.1 ((List.range s.1).filter pr).length s.2.2),(23,.slice q x.ev.length c),(24,i64 x.ev.length),(25,i64 (s.1:Nat))],[]⟩,fun s V=>s.1<=x.ev.length/\OwnS zB 3 B V s.2.1 s.2.2 ((List.range s.1).filter pr)/\Below B X V,fun s=>x.ev.length-s.1,(0,none,0),
   (cvE rfl rfl),⟨Gb _,OwnS.nil,by rw [hB];exact Gd _ _⟩,?_⟩
  rintro⟨k,ps,cs⟩ V ⟨hk,oV,hbV⟩;dsimp only at hk oV ⊢;have hVs:B<=V.heap.size:=by have:=hbV.size;omega
  refine biE (fun hc=>?_) fun hc=>?_
  ·have hc:(k:Int)<(x.ev.length:Int):=dT hc;have hkl:k<x.ev.length:=by omega
   have hbwV:=hbX.trans (hbV.mono (by rw [hB];exact hbX.size));obtain⟨bq,oq,hqe,hb,hat⟩:=zck (hv.ev.below hbwV) hkl;have hfl:(List.range (k+1)).filter pr=(List.range k).filter pr++if pr k=true then [k] else []:=by
    rw [QW,Kv,Qn,List.filter_nil]
   have hprk:pr k=(decide ((evA x k).k=3)&&decide ((evA x k).m=md)):=by rw [hpr]
   have hll2:((List.range k).filter pr).length<=k:=by
    have:=JM pr (List.range k);rw [KV] at this;exact this
   obtain⟨e,he⟩:=nm (evA x k);rw [<- he] at hat hprk;have eq0:some (Value.slice q x.ev.length c)=some (Value.slice (some ⟨bq,oq,none⟩) x.ev.length c):=by rw [hqe]
   subst hqe;refine⟨k,rfl,hkl,evE.enc e,rfl,hat,hb,zo (X:=V) (v := .agg (evE.enc e).toArray) k49 rfl rfl (Qj.2 fun u hu=>evE.one e u hu) fun U hbU fU sU=>?_⟩;have fU:U.heap[V.heap.size]?=some (.cells (evE.enc e).toArray 49 (0,0)):=fU;have oU:=oV.below hbU;have hbU2:=hbV.trans (hbU.mono hVs);have hUs:B<=U.heap.size:=by have:=hbU.size;omega
   have skip:pr k=false->(k+1<=x.ev.length/\OwnS zB 3 B U ps cs ((List.range (k+1)).filter pr)/\Below B X U):=fun h=>⟨hkl,by rw [hfl,h];simpa using oU,hbU2⟩;have skipE:pr k=false->((List.range (k+1)).filter pr).length=((List.range k).filter pr).length:=fun h=>by rw [hfl,h];simp
   refine⟨u8 e.k,zc (za fU) (i:=1) rfl,biE (fun h1=>?_) fun h1=>?_⟩
   ·have h1:e.k=3:=qr.1 (dT h1);refine⟨u8 e.m,zc (za fU) (i:=4) rfl,biE (fun h2=>?_) fun h2=>?_⟩
    ·have h2:e.m=md:=qr.1 (dT h2);have hp1:pr k=true:=(by rw [hprk,Us h1,Us h2];rfl);rw [Gr hp1] at hfl;refine⟨⟨by decide,by decide,rfl⟩,zB.enc k,rfl,?_⟩;have hb2:Bw U (U.alloc (.cells (zB.enc k).toArray 3)):=zba _ _;have sb2:=hb2.size;unfold zdY zax;show SatR _ _;refine zo7 (oU.below hb2) (qS zB k) (by omega) (by omega) fun p' c' S oS gS hat2=>?_;rw [zaH] at gS;rw [<- hfl] at oS ⊢;exact nxI (by omega) ⟨(k+1,p',c'),(cvE rfl rfl),⟨hkl,oS,hbU2.trans ((hb2.mono hUs).trans (jd (oU.below hb2) (by omega) (UY _) gS))⟩,zdc (by omega)⟩
    ·have h2:¬ e.m=md:=fun e2=>(dF h2) (by rw [e2]);have hp0:pr k=false:=(by rw [hprk,Uh h2,Ui]);exact nxI (by omega) ⟨(k+1,ps,cs),⟨.cons rfl (.cons rfl (.cons rfl (.cons rfl (.cons (by show _=some (Value.slice ps ((List.range (k+1)).filter pr).length cs);rw [skipE hp0];rfl) (.cons rfl (.cons rfl (.cons rfl .nil))))))),rfl⟩,skip hp0,zdc (by omega)⟩
   ·have h1:¬ e.k=3:=fun e2=>(dF h1) (by rw [e2];rfl);have hp0:pr k=false:=(by rw [hprk,Uh h1];rfl);exact brF (nxI (by omega) ⟨(k+1,ps,cs),⟨.cons rfl (.cons rfl (.cons rfl (.cons rfl (.cons (by show _=some (Value.slice ps ((List.range (k+1)).filter pr).length cs);rw [skipE hp0];rfl) (.cons rfl (.cons rfl (.cons rfl .nil))))))),rfl⟩,skip hp0,zdc (by omega)⟩)
  ·have hc:¬ (k:Int)<(x.ev.length:Int):=dF hc;obtain rfl:k=x.ev.length:=by omega
   rw [<- hnn] at oV ⊢;exact⟨(ps,cs),(cvE rfl rfl),oV,hbV⟩
 rintro⟨ps,cs⟩ V ⟨oV,hbV⟩;dsimp only at oV ⊢;have hVs:B<=V.heap.size:=by have:=hbV.size;omega
 have hbwV:=hbX.trans (hbV.mono (by rw [hB];exact hbX.size));have hmask:orG ((List.range n).filter pr)=zbh x md:=by rw [hpr,hnn];rfl
 have hlt64:∀ i∈(List.range n).filter pr,i<64:=fun i hi=>by
  have:=Uo.1 (QT.1 hi).1;omega
 have hlen:((List.range n).filter pr).length<=n:=by
  have:=JM pr (List.range n);rw [KV] at this;exact this
 refine⟨Unit,fun _=>⟨[(0,At0 b),(4,At0 L),(5,i64 n),(9,s64 (zbh x md))],[]⟩,fun _ Y=>V=Y,?_,?_⟩
 ·refine cmo (zvw oV.row hlt64 (by omega)) ?_;rintro e Y ⟨rfl,rfl⟩;rw [hmask];exact⟨(),(cvE rfl rfl),rfl⟩
 rintro _ _ rfl;have hm64:zbh x md<2^64:=by rw [<- hmask];exact zpV hlt64
 replace f0:=zb (by subst hB;exact hbV) f0;have fV:=zb hbwV fx;have hvV:=hv.below hbwV;have hTV:=hT.below hbwV;clear oV hbX hbV hlen hlt64 hmask hpr hB hVs;clear B ps cs pr X;have idw:zH (idR n (zbh x md)).to:=fun i hi=>by
  unfold idR;exact zdT (fun i _ _=>KE QY hm64) i hi
 have hba:∀ (A:Wd) (o:Obj),Bw A (A.alloc o):=fun A o=>(zba _ _);refine⟨Nat,fun F=>⟨[(0,At0 b),(4,At0 L),(11,At0 F)],[]⟩,fun F Z=>zS Z F (jk x.po (idR n (zbh x md))).1/\zS Z L zw/\Bw w Z,?_,?_⟩
 ·have dV:Bw V V.drew:=(Gd _ _).drew;have put:∀ (W:Wd) (b3:Nat),Bw V W->zS W b3 zw->V.heap.size<=b3->∀ {K:Wd->Prop},(∀ Y,(zS Y b3 (jk x.po (idR n (zbh x md))).1/\zS Y L zw/\Bw w Y)->K Y) ->
    SatR ((storeVar 39 ⟨b3,0,none⟩ (.agg (zf (jk x.po (idR n (zbh x md))).1).toArray)).run PG W) fun _ w'=>K w':=by
   intro W b3 hW f3 g3 K k;refine zt (v := .agg (zf (jk x.po (idR n (zbh x md))).1).toArray) k39 f3 (zg _) (zg _) (zC _) ?_;have hL2:=hlt f0;exact k _ ⟨zm f3,(zp (by omega)).trans (zb hW f0),zl ((zst hbwV hW)) (by have:=hbwV.size;omega) _⟩
  refine DrawE.treeQ [12] (.op 0 (.op 1 (.op 2 (.op 3 (.op 4 (.op 5 (.alt (.op 11 (.op 6 (.op 7 (.op 8 (.op 9 (.op 10 (.op 12 (.op 13 (.nil))))))))) (.op 6 (.alt (.op 11 (.op 7 (.op 8 (.op 9 (.op 10 (.op 12 (.op 13 (.nil)))))))) (.op 7 (.op 8 (.op 9 (.op 10 (.op 11 (.op 12 (.op 13 (.nil))))))))))))))))) (by kernel_rfl) ⟨zf x.po,zg _,qO (hdr fV) (i:=0) (by decide) rfl,hlt (hdr fV),Gi ?_ ?_⟩
  ·refine⟨hba _ _,?_⟩;have b1:=dV.alloc (UY _) (.cells (zf zw).toArray 39);refine cmo (zuZ (n:=n) (by omega) hm64) ?_;rintro e Y ⟨rfl,hbY⟩;refine⟨hbY,?_⟩;have b2:=zst b1 hbY;refine cmo (zcm hvV.po idw (hTV.below b2)) ?_;rintro e Z ⟨rfl,hbZ⟩;exact⟨hbZ,put Z V.heap.size ((zst b2 hbZ)) (zb hbZ (zb hbY (zu V.drew _))) (UY _) (fun Y hY=>⟨V.heap.size,(cvE rfl rfl),hY⟩)⟩
  refine cmo (zuZ (n:=n) (by omega) hm64) ?_;rintro e Y ⟨rfl,hbY⟩;refine⟨hbY,?_⟩;have b1:=zst dV hbY;refine Gi ?_ ?_
  ·refine⟨hba _ _,?_⟩;have b2:=b1.alloc b1.size (.cells (zf zw).toArray 39);refine cmo (zcm hvV.po idw (hTV.below b2)) ?_;rintro e Z ⟨rfl,hbZ⟩;exact⟨hbZ,put Z Y.heap.size ((zst b2 hbZ)) (zb hbZ (zu Y _)) b1.size (fun V2 hV=>⟨Y.heap.size,(cvE rfl rfl),hV⟩)⟩
  ·refine cmo (zcm hvV.po idw (hTV.below b1)) ?_;rintro e Z ⟨rfl,hbZ⟩;refine⟨hbZ,?_⟩;have b2:=zst b1 hbZ;exact⟨hba _ _,put _ Z.heap.size (b2.alloc b2.size _) (zu Z _) b2.size (fun V2 hV=>⟨Z.heap.size,(cvE rfl rfl),hV⟩)⟩
 clear f0 fV hvV hTV hbwV;clear V;rintro F V ⟨f1,f0,hbV⟩;have fV:=zb hbV fx;have hTV:=hT.below hbV;have hFw:=zdb hv.po idw;have efen:(jk (jk x.po (idR n (zbh x md))).1 x.po).1=zU x md:=by rw [hnn];rfl
 refine⟨Nat,fun G=>⟨[(4,At0 L),(13,At0 G)],[]⟩,fun G Z=>zS Z G (zU x md)/\zS Z L zw/\Bw w Z,?_,?_⟩
 ·have dV:Bw V V.drew:=(Gd _ _).drew;have put:∀ (W:Wd) (b3:Nat),Bw V W->zS W b3 zw->V.heap.size<=b3->∀ {K:Wd->Prop},(∀ Y,(zS Y b3 (zU x md)/\zS Y L zw/\Bw w Y)->K Y) ->
    SatR ((storeVar 39 ⟨b3,0,none⟩ (.agg (zf (zU x md)).toArray)).run PG W) fun _ w'=>K w':=by
   intro W b3 hW f3 g3 K k;refine zt (v := .agg (zf (zU x md)).toArray) k39 f3 (zg _) (zg _) (zC _) ?_;have hL2:=hlt f0;exact k _ ⟨zm f3,(zp (by omega)).trans (zb hW f0),zl ((zst hbV hW)) (by have:=hbV.size;omega) _⟩
  refine DrawE.treeQ [10] (.op 0 (.op 1 (.op 2 (.op 3 (.op 4 (.alt (.op 9 (.op 5 (.op 6 (.op 7 (.op 8 (.op 10 (.op 11 .nil))))))) (.op 5 (.op 6 (.op 7 (.op 8 (.op 9 (.op 10 (.op 11 .nil))))))))))))) (by kernel_rfl) ⟨zf _,zg _,za (hdr f1),hlt (hdr f1),zf x.po,zg _,qO (hdr fV) (i:=0) (by decide) rfl,hlt (hdr fV),Gi ?_ ?_⟩
  ·refine⟨hba _ _,?_⟩;have b1:=dV.alloc (UY _) (.cells (zf zw).toArray 39);refine cmo (zcm hFw hv.po (hTV.below b1)) ?_;rintro e Y ⟨rfl,hbY⟩;refine⟨hbY,?_⟩;rw [efen];exact put Y V.heap.size ((zst b1 hbY)) (zb hbY (zu V.drew _)) (UY _) (fun Y hY=>⟨V.heap.size,(cvE rfl rfl),hY⟩)
  ·refine cmo (zcm hFw hv.po (hTV.below dV)) ?_;rintro e Y ⟨rfl,hbY⟩;refine⟨hbY,?_⟩;have b1:=zst dV hbY;refine⟨hba _ _,?_⟩;rw [efen];exact put _ Y.heap.size (b1.alloc b1.size _) (zu Y _) b1.size (fun V2 hV=>⟨Y.heap.size,(cvE rfl rfl),hV⟩)
 rintro G Z ⟨f1,f0,hbZ⟩;exact⟨zf (zU x md),zg _,za f1,hlt f1,zt (v := .agg (zf (zU x md)).toArray) k39 f0 (zg _) (zg _) (zC _) ⟨zf (zU x md),zg _,za (zm f0),rfl,zl hbZ (by omega) _⟩⟩
end
section
variable {w:Wd} {b c:Nat} {x:ExD} {q:OA} {f l s:RelD}
theorem zrB {a d:Nat}:CB 120 #[At0 b,i64 (a:Nat),i64 (d:Nat)] w (.bool (zeV 1 x f l s a d)):=by
 refine zI 7 [At0 b,i64 (a:Nat),i64 (d:Nat)] Tryz.func120 ?_;exact⟨rfl,Gd _ _⟩
theorem zrA {a d:Nat}:CB 121 #[At0 b,i64 (a:Nat),i64 (d:Nat)] w (.bool (zeV 2 x f l s a d)):=by
 refine zI 7 [At0 b,i64 (a:Nat),i64 (d:Nat)] Tryz.func121 ?_;exact⟨rfl,Gd _ _⟩
theorem zrz {a d:Nat} (h:ScnV w b x q c f l s) (ha:a<x.ev.length) (hd:d<x.ev.length):CB 122 #[At0 b,i64 (a:Nat),i64 (d:Nat)] w (.bool (zeV 3 x f l s a d)):=by
 refine zI 21 [At0 b,i64 (a:Nat),i64 (d:Nat)] Tryz.func122 ?_;have hn:=h.v.n;have hA:a<48:=by omega
 have hD:d<48:=by omega
 have hbw:=Gd w.heap.size w;refine cmo (zed h ha) ?_;rintro e _ ⟨rfl,rfl⟩;refine biE (fun h1=>?_) fun h1=>?_
 ·have h1:isR x a=true:=h1;exact brT ⟨rb (by show _=(isR x a||(isW x d||zaw x f a d));rw [h1];rfl),hbw⟩
 ·have h1:isR x a=false:=h1;refine cmo (jz h hd) ?_;rintro e _ ⟨rfl,rfl⟩;refine biE (fun h2=>?_) fun h2=>?_
  ·have h2:isW x d=true:=h2;exact⟨rb (by show _=(isR x a||(isW x d||zaw x f a d));rw [h1,h2];rfl),hbw⟩
  ·have h2:isW x d=false:=h2;refine cmo (znX h ha hd) ?_;rintro e _ ⟨rfl,rfl⟩;exact⟨rb (by show _=(isR x a||(isW x d||zaw x f a d));rw [h1,h2];rfl),hbw⟩
theorem zry {a d:Nat} (h:ScnV w b x q c f l s) (ha:a<x.ev.length) (hd:d<x.ev.length):CB 126 #[At0 b,i64 (a:Nat),i64 (d:Nat)] w (.bool (zeV 4 x f l s a d)):=by
 refine zI 37 [At0 b,i64 (a:Nat),i64 (d:Nat)] Tryz.func126 ?_;have hn:=h.v.n;have hA:a<48:=by omega
 have hD:d<48:=by omega
 have hbw:=Gd w.heap.size w;refine cmo (zed h ha) ?_;rintro e _ ⟨rfl,rfl⟩;refine biE (fun h1=>?_) fun h1=>?_
 ·have h1:isR x a=true:=h1;exact brT ⟨rb (by show _=(isR x a||(zaw x f a d||(isW x d&&(zbF x a d||zh s a d))));rw [h1];rfl),hbw⟩
 ·have h1:isR x a=false:=h1;refine cmo (znX h ha hd) ?_;rintro e _ ⟨rfl,rfl⟩;refine biE (fun h2=>?_) fun h2=>?_
  ·have h2:zaw x f a d=true:=h2;exact⟨rb (by show _=(isR x a||(zaw x f a d||(isW x d&&(zbF x a d||zh s a d))));rw [h1,h2];rfl),hbw⟩
  ·have h2:zaw x f a d=false:=h2;refine cmo (jz h hd) ?_;rintro e _ ⟨rfl,rfl⟩;refine biE (fun h3=>?_) fun h3=>?_
   ·have h3:isW x d=true:=h3;refine cmo (zpE h.cells h.v.ev ha hd) ?_;rintro e Z4 ⟨rfl,hbZ4⟩;have h:=h.below hbZ4;have hbw:=zst hbw hbZ4;refine biE (fun h4=>?_) fun h4=>?_
    ·have h4:zbF x a d=true:=h4;exact⟨rb (by show _=(isR x a||(zaw x f a d||(isW x d&&(zbF x a d||zh s a d))));rw [h1,h2,h3,h4];rfl),hbw⟩
    ·have h4:zbF x a d=false:=h4;refine cmo (zX h.stores h.ws hA hD) ?_;rintro e _ ⟨rfl,rfl⟩;exact⟨rb (by show _=(isR x a||(zaw x f a d||(isW x d&&(zbF x a d||zh s a d))));rw [h1,h2,h3,h4];rfl),hbw⟩
   ·have h3:isW x d=false:=h3;exact⟨rb (by show _=(isR x a||(zaw x f a d||(isW x d&&(zbF x a d||zh s a d))));rw [h1,h2,h3];rfl),hbw⟩
theorem zrx {a d:Nat} (h:ScnV w b x q c f l s) (ha:a<x.ev.length) (hd:d<x.ev.length):CB 127 #[At0 b,i64 (a:Nat),i64 (d:Nat)] w (.bool (zeV 5 x f l s a d)):=by
 refine zI 49 [At0 b,i64 (a:Nat),i64 (d:Nat)] Tryz.func127 ?_;have hn:=h.v.n;have hA:a<48:=by omega
 have hD:d<48:=by omega
 have hbw:=Gd w.heap.size w;refine cmo (zed h ha) ?_;rintro e _ ⟨rfl,rfl⟩;refine biE (fun h1=>?_) fun h1=>?_
 ·have h1:isR x a=true:=h1;refine cmo (zdd (md:=1) h ha) ?_;rintro e _ ⟨rfl,rfl⟩;refine biE (fun h2=>?_) fun h2=>?_
  ·have h2:zZ x a 1=true:=h2;exact brT (brT ⟨rb (by show _=((isR x a&&(zZ x a 1||zh l a d))||((isW x d&&(zZ x d 2||zh s a d))||zh f a d));rw [h1,h2];rfl),hbw⟩)
  ·have h2:zZ x a 1=false:=h2;refine cmo (zX h.loads h.wl hA hD) ?_;rintro e _ ⟨rfl,rfl⟩;refine biE (fun h3=>?_) fun h3=>?_
   ·have h3:zh l a d=true:=h3;exact brT ⟨rb (by show _=((isR x a&&(zZ x a 1||zh l a d))||((isW x d&&(zZ x d 2||zh s a d))||zh f a d));rw [h1,h2,h3];rfl),hbw⟩
   ·have h3:zh l a d=false:=h3;refine cmo (jz h hd) ?_;rintro e _ ⟨rfl,rfl⟩;refine biE (fun h4=>?_) fun h4=>?_
    ·have h4:isW x d=true:=h4;refine cmo (zdd (md:=2) h hd) ?_;rintro e _ ⟨rfl,rfl⟩;refine biE (fun h5=>?_) fun h5=>?_
     ·have h5:zZ x d 2=true:=h5;exact brT ⟨rb (by show _=((isR x a&&(zZ x a 1||zh l a d))||((isW x d&&(zZ x d 2||zh s a d))||zh f a d));rw [h1,h2,h3,h4,h5];rfl),hbw⟩
     ·have h5:zZ x d 2=false:=h5;refine cmo (zX h.stores h.ws hA hD) ?_;rintro e _ ⟨rfl,rfl⟩;refine biE (fun h6=>?_) fun h6=>?_
      ·have h6:zh s a d=true:=h6;exact⟨rb (by show _=((isR x a&&(zZ x a 1||zh l a d))||((isW x d&&(zZ x d 2||zh s a d))||zh f a d));rw [h1,h2,h3,h4,h5,h6];rfl),hbw⟩
      ·have h6:zh s a d=false:=h6;refine cmo (zX h.full h.wf hA hD) ?_;rintro e _ ⟨rfl,rfl⟩;exact⟨rb (by show _=((isR x a&&(zZ x a 1||zh l a d))||((isW x d&&(zZ x d 2||zh s a d))||zh f a d));rw [h1,h2,h3,h4,h5,h6];rfl),hbw⟩
    ·have h4:isW x d=false:=h4;refine brF (cmo (zX h.full h.wf hA hD) ?_);rintro e _ ⟨rfl,rfl⟩;exact⟨rb (by show _=((isR x a&&(zZ x a 1||zh l a d))||((isW x d&&(zZ x d 2||zh s a d))||zh f a d));rw [h1,h2,h3,h4];rfl),hbw⟩
 ·have h1:isR x a=false:=h1;refine brF (cmo (jz h hd) ?_);rintro e _ ⟨rfl,rfl⟩;refine biE (fun h9=>?_) fun h9=>?_
  ·have h9:isW x d=true:=h9;refine cmo (zdd (md:=2) h hd) ?_;rintro e _ ⟨rfl,rfl⟩;refine biE (fun h10=>?_) fun h10=>?_
   ·have h10:zZ x d 2=true:=h10;exact brT ⟨rb (by show _=((isR x a&&(zZ x a 1||zh l a d))||((isW x d&&(zZ x d 2||zh s a d))||zh f a d));rw [h1,h9,h10];rfl),hbw⟩
   ·have h10:zZ x d 2=false:=h10;refine cmo (zX h.stores h.ws hA hD) ?_;rintro e _ ⟨rfl,rfl⟩;refine biE (fun h11=>?_) fun h11=>?_
    ·have h11:zh s a d=true:=h11;exact⟨rb (by show _=((isR x a&&(zZ x a 1||zh l a d))||((isW x d&&(zZ x d 2||zh s a d))||zh f a d));rw [h1,h9,h10,h11];rfl),hbw⟩
    ·have h11:zh s a d=false:=h11;refine cmo (zX h.full h.wf hA hD) ?_;rintro e _ ⟨rfl,rfl⟩;exact⟨rb (by show _=((isR x a&&(zZ x a 1||zh l a d))||((isW x d&&(zZ x d 2||zh s a d))||zh f a d));rw [h1,h9,h10,h11];rfl),hbw⟩
  ·have h9:isW x d=false:=h9;refine brF (cmo (zX h.full h.wf hA hD) ?_);rintro e _ ⟨rfl,rfl⟩;exact⟨rb (by show _=((isR x a&&(zZ x a 1||zh l a d))||((isW x d&&(zZ x d 2||zh s a d))||zh f a d));rw [h1,h9];rfl),hbw⟩
theorem zrw {a d:Nat} (h:ScnV w b x q c f l s) (ha:a<x.ev.length) (hd:d<x.ev.length):CB 129 #[At0 b,i64 (a:Nat),i64 (d:Nat)] w (.bool (zeV 6 x f l s a d)):=by
 refine zI 81 [At0 b,i64 (a:Nat),i64 (d:Nat)] Tryz.func129 ?_;have hn:=h.v.n;have hA:a<48:=by omega
 have hD:d<48:=by omega
 have hbw:=Gd w.heap.size w;refine cmo (zX (zfI h.cells (ztT x q c)) h.v.dt hA hD) ?_;rintro e _ ⟨rfl,rfl⟩;refine biE (fun h1=>?_) fun h1=>?_
 ·have h1:zh x.dt a d=true:=h1;exact brT (brT (brT (brT ⟨rb (by show _=(zh x.dt a d||((zh x.ct a d&&isW x d)||(zh x.rm a d||(zh f a d||((zh l a d&&(isR x a&&isR x d))||(zh s a d&&(isW x a&&isW x d)))))));rw [h1];rfl),hbw⟩)))
 ·have h1:zh x.dt a d=false:=h1;refine cmo (zX (zfI h.cells (ztU x q c)) h.v.ct hA hD) ?_;rintro e _ ⟨rfl,rfl⟩;refine biE (fun h2=>?_) fun h2=>?_
  ·have h2:zh x.ct a d=true:=h2;refine cmo (jz h hd) ?_;rintro e _ ⟨rfl,rfl⟩;refine biE (fun h3=>?_) fun h3=>?_
   ·have h3:isW x d=true:=h3;exact brT (brT (brT ⟨rb (by show _=(zh x.dt a d||((zh x.ct a d&&isW x d)||(zh x.rm a d||(zh f a d||((zh l a d&&(isR x a&&isR x d))||(zh s a d&&(isW x a&&isW x d)))))));rw [h1,h2,h3];rfl),hbw⟩))
   ·have h3:isW x d=false:=h3;refine cmo (zX (zfI h.cells (zqs x q c)) h.v.rm hA hD) ?_;rintro e _ ⟨rfl,rfl⟩;refine biE (fun h4=>?_) fun h4=>?_
    ·have h4:zh x.rm a d=true:=h4;exact brT (brT ⟨rb (by show _=(zh x.dt a d||((zh x.ct a d&&isW x d)||(zh x.rm a d||(zh f a d||((zh l a d&&(isR x a&&isR x d))||(zh s a d&&(isW x a&&isW x d)))))));rw [h1,h2,h3,h4];rfl),hbw⟩)
    ·have h4:zh x.rm a d=false:=h4;refine cmo (zX h.full h.wf hA hD) ?_;rintro e _ ⟨rfl,rfl⟩;refine biE (fun h5=>?_) fun h5=>?_
     ·have h5:zh f a d=true:=h5;exact brT ⟨rb (by show _=(zh x.dt a d||((zh x.ct a d&&isW x d)||(zh x.rm a d||(zh f a d||((zh l a d&&(isR x a&&isR x d))||(zh s a d&&(isW x a&&isW x d)))))));rw [h1,h2,h3,h4,h5];rfl),hbw⟩
     ·have h5:zh f a d=false:=h5;refine cmo (zX h.loads h.wl hA hD) ?_;rintro e _ ⟨rfl,rfl⟩;refine biE (fun h6=>?_) fun h6=>?_
      ·have h6:zh l a d=true:=h6;refine cmo (zed h ha) ?_;rintro e _ ⟨rfl,rfl⟩;refine biE (fun h7=>?_) fun h7=>?_
       ·have h7:isR x a=true:=h7;refine cmo (zed h hd) ?_;rintro e _ ⟨rfl,rfl⟩;refine biE (fun h8=>?_) fun h8=>?_
        ·have h8:isR x d=true:=h8;exact⟨rb (by show _=(zh x.dt a d||((zh x.ct a d&&isW x d)||(zh x.rm a d||(zh f a d||((zh l a d&&(isR x a&&isR x d))||(zh s a d&&(isW x a&&isW x d)))))));rw [h1,h2,h3,h4,h5,h6,h7,h8];rfl),hbw⟩
        ·have h8:isR x d=false:=h8;refine cmo (zX h.stores h.ws hA hD) ?_;rintro e _ ⟨rfl,rfl⟩;refine biE (fun h9=>?_) fun h9=>?_
         ·have h9:zh s a d=true:=h9;refine cmo (jz h ha) ?_;rintro e _ ⟨rfl,rfl⟩;refine biE (fun h10=>?_) fun h10=>?_
          ·have h10:isW x a=true:=h10;refine cmo (jz h hd) ?_;rintro e _ ⟨rfl,rfl⟩;exact⟨rb (by show _=(zh x.dt a d||((zh x.ct a d&&isW x d)||(zh x.rm a d||(zh f a d||((zh l a d&&(isR x a&&isR x d))||(zh s a d&&(isW x a&&isW x d)))))));rw [h1,h2,h3,h4,h5,h6,h7,h8,h9,h10];rfl),hbw⟩
          ·have h10:isW x a=false:=h10;exact⟨rb (by show _=(zh x.dt a d||((zh x.ct a d&&isW x d)||(zh x.rm a d||(zh f a d||((zh l a d&&(isR x a&&isR x d))||(zh s a d&&(isW x a&&isW x d)))))));rw [h1,h2,h3,h4,h5,h6,h7,h8,h9,h10];rfl),hbw⟩
         ·have h9:zh s a d=false:=h9;exact brF ⟨rb (by show _=(zh x.dt a d||((zh x.ct a d&&isW x d)||(zh x.rm a d||(zh f a d||((zh l a d&&(isR x a&&isR x d))||(zh s a d&&(isW x a&&isW x d)))))));rw [h1,h2,h3,h4,h5,h6,h7,h8,h9];rfl),hbw⟩
       ·have h7:isR x a=false:=h7;refine brF (cmo (zX h.stores h.ws hA hD) ?_);rintro e _ ⟨rfl,rfl⟩;refine biE (fun h12=>?_) fun h12=>?_
        ·have h12:zh s a d=true:=h12;refine cmo (jz h ha) ?_;rintro e _ ⟨rfl,rfl⟩;refine biE (fun h13=>?_) fun h13=>?_
         ·have h13:isW x a=true:=h13;refine cmo (jz h hd) ?_;rintro e _ ⟨rfl,rfl⟩;exact⟨rb (by show _=(zh x.dt a d||((zh x.ct a d&&isW x d)||(zh x.rm a d||(zh f a d||((zh l a d&&(isR x a&&isR x d))||(zh s a d&&(isW x a&&isW x d)))))));rw [h1,h2,h3,h4,h5,h6,h7,h12,h13];rfl),hbw⟩
         ·have h13:isW x a=false:=h13;exact⟨rb (by show _=(zh x.dt a d||((zh x.ct a d&&isW x d)||(zh x.rm a d||(zh f a d||((zh l a d&&(isR x a&&isR x d))||(zh s a d&&(isW x a&&isW x d)))))));rw [h1,h2,h3,h4,h5,h6,h7,h12,h13];rfl),hbw⟩
        ·have h12:zh s a d=false:=h12;exact brF ⟨rb (by show _=(zh x.dt a d||((zh x.ct a d&&isW x d)||(zh x.rm a d||(zh f a d||((zh l a d&&(isR x a&&isR x d))||(zh s a d&&(isW x a&&isW x d)))))));rw [h1,h2,h3,h4,h5,h6,h7,h12];rfl),hbw⟩
      ·have h6:zh l a d=false:=h6;refine brF (brF (cmo (zX h.stores h.ws hA hD) ?_));rintro e _ ⟨rfl,rfl⟩;refine biE (fun h15=>?_) fun h15=>?_
       ·have h15:zh s a d=true:=h15;refine cmo (jz h ha) ?_;rintro e _ ⟨rfl,rfl⟩;refine biE (fun h16=>?_) fun h16=>?_
        ·have h16:isW x a=true:=h16;refine cmo (jz h hd) ?_;rintro e _ ⟨rfl,rfl⟩;exact⟨rb (by show _=(zh x.dt a d||((zh x.ct a d&&isW x d)||(zh x.rm a d||(zh f a d||((zh l a d&&(isR x a&&isR x d))||(zh s a d&&(isW x a&&isW x d)))))));rw [h1,h2,h3,h4,h5,h6,h15,h16];rfl),hbw⟩
        ·have h16:isW x a=false:=h16;exact⟨rb (by show _=(zh x.dt a d||((zh x.ct a d&&isW x d)||(zh x.rm a d||(zh f a d||((zh l a d&&(isR x a&&isR x d))||(zh s a d&&(isW x a&&isW x d)))))));rw [h1,h2,h3,h4,h5,h6,h15,h16];rfl),hbw⟩
       ·have h15:zh s a d=false:=h15;exact brF ⟨rb (by show _=(zh x.dt a d||((zh x.ct a d&&isW x d)||(zh x.rm a d||(zh f a d||((zh l a d&&(isR x a&&isR x d))||(zh s a d&&(isW x a&&isW x d)))))));rw [h1,h2,h3,h4,h5,h6,h15];rfl),hbw⟩
  ·have h2:zh x.ct a d=false:=h2;refine brF (cmo (zX (zfI h.cells (zqs x q c)) h.v.rm hA hD) ?_);rintro e _ ⟨rfl,rfl⟩;refine biE (fun h18=>?_) fun h18=>?_
   ·have h18:zh x.rm a d=true:=h18;exact brT (brT ⟨rb (by show _=(zh x.dt a d||((zh x.ct a d&&isW x d)||(zh x.rm a d||(zh f a d||((zh l a d&&(isR x a&&isR x d))||(zh s a d&&(isW x a&&isW x d)))))));rw [h1,h2,h18];rfl),hbw⟩)
   ·have h18:zh x.rm a d=false:=h18;refine cmo (zX h.full h.wf hA hD) ?_;rintro e _ ⟨rfl,rfl⟩;refine biE (fun h19=>?_) fun h19=>?_
    ·have h19:zh f a d=true:=h19;exact brT ⟨rb (by show _=(zh x.dt a d||((zh x.ct a d&&isW x d)||(zh x.rm a d||(zh f a d||((zh l a d&&(isR x a&&isR x d))||(zh s a d&&(isW x a&&isW x d)))))));rw [h1,h2,h18,h19];rfl),hbw⟩
    ·have h19:zh f a d=false:=h19;refine cmo (zX h.loads h.wl hA hD) ?_;rintro e _ ⟨rfl,rfl⟩;refine biE (fun h20=>?_) fun h20=>?_
     ·have h20:zh l a d=true:=h20;refine cmo (zed h ha) ?_;rintro e _ ⟨rfl,rfl⟩;refine biE (fun h21=>?_) fun h21=>?_
      ·have h21:isR x a=true:=h21;refine cmo (zed h hd) ?_;rintro e _ ⟨rfl,rfl⟩;refine biE (fun h22=>?_) fun h22=>?_
       ·have h22:isR x d=true:=h22;exact⟨rb (by show _=(zh x.dt a d||((zh x.ct a d&&isW x d)||(zh x.rm a d||(zh f a d||((zh l a d&&(isR x a&&isR x d))||(zh s a d&&(isW x a&&isW x d)))))));rw [h1,h2,h18,h19,h20,h21,h22];rfl),hbw⟩
       ·have h22:isR x d=false:=h22;refine cmo (zX h.stores h.ws hA hD) ?_;rintro e _ ⟨rfl,rfl⟩;refine biE (fun h23=>?_) fun h23=>?_
        ·have h23:zh s a d=true:=h23;refine cmo (jz h ha) ?_;rintro e _ ⟨rfl,rfl⟩;refine biE (fun h24=>?_) fun h24=>?_
         ·have h24:isW x a=true:=h24;refine cmo (jz h hd) ?_;rintro e _ ⟨rfl,rfl⟩;exact⟨rb (by show _=(zh x.dt a d||((zh x.ct a d&&isW x d)||(zh x.rm a d||(zh f a d||((zh l a d&&(isR x a&&isR x d))||(zh s a d&&(isW x a&&isW x d)))))));rw [h1,h2,h18,h19,h20,h21,h22,h23,h24];rfl),hbw⟩
         ·have h24:isW x a=false:=h24;exact⟨rb (by show _=(zh x.dt a d||((zh x.ct a d&&isW x d)||(zh x.rm a d||(zh f a d||((zh l a d&&(isR x a&&isR x d))||(zh s a d&&(isW x a&&isW x d)))))));rw [h1,h2,h18,h19,h20,h21,h22,h23,h24];rfl),hbw⟩
        ·have h23:zh s a d=false:=h23;exact brF ⟨rb (by show _=(zh x.dt a d||((zh x.ct a d&&isW x d)||(zh x.rm a d||(zh f a d||((zh l a d&&(isR x a&&isR x d))||(zh s a d&&(isW x a&&isW x d)))))));rw [h1,h2,h18,h19,h20,h21,h22,h23];rfl),hbw⟩
      ·have h21:isR x a=false:=h21;refine brF (cmo (zX h.stores h.ws hA hD) ?_);rintro e _ ⟨rfl,rfl⟩;refine biE (fun h26=>?_) fun h26=>?_
       ·have h26:zh s a d=true:=h26;refine cmo (jz h ha) ?_;rintro e _ ⟨rfl,rfl⟩;refine biE (fun h27=>?_) fun h27=>?_
        ·have h27:isW x a=true:=h27;refine cmo (jz h hd) ?_;rintro e _ ⟨rfl,rfl⟩;exact⟨rb (by show _=(zh x.dt a d||((zh x.ct a d&&isW x d)||(zh x.rm a d||(zh f a d||((zh l a d&&(isR x a&&isR x d))||(zh s a d&&(isW x a&&isW x d)))))));rw [h1,h2,h18,h19,h20,h21,h26,h27];rfl),hbw⟩
        ·have h27:isW x a=false:=h27;exact⟨rb (by show _=(zh x.dt a d||((zh x.ct a d&&isW x d)||(zh x.rm a d||(zh f a d||((zh l a d&&(isR x a&&isR x d))||(zh s a d&&(isW x a&&isW x d)))))));rw [h1,h2,h18,h19,h20,h21,h26,h27];rfl),hbw⟩
       ·have h26:zh s a d=false:=h26;exact brF ⟨rb (by show _=(zh x.dt a d||((zh x.ct a d&&isW x d)||(zh x.rm a d||(zh f a d||((zh l a d&&(isR x a&&isR x d))||(zh s a d&&(isW x a&&isW x d)))))));rw [h1,h2,h18,h19,h20,h21,h26];rfl),hbw⟩
     ·have h20:zh l a d=false:=h20;refine brF (brF (cmo (zX h.stores h.ws hA hD) ?_));rintro e _ ⟨rfl,rfl⟩;refine biE (fun h29=>?_) fun h29=>?_
      ·have h29:zh s a d=true:=h29;refine cmo (jz h ha) ?_;rintro e _ ⟨rfl,rfl⟩;refine biE (fun h30=>?_) fun h30=>?_
       ·have h30:isW x a=true:=h30;refine cmo (jz h hd) ?_;rintro e _ ⟨rfl,rfl⟩;exact⟨rb (by show _=(zh x.dt a d||((zh x.ct a d&&isW x d)||(zh x.rm a d||(zh f a d||((zh l a d&&(isR x a&&isR x d))||(zh s a d&&(isW x a&&isW x d)))))));rw [h1,h2,h18,h19,h20,h29,h30];rfl),hbw⟩
       ·have h30:isW x a=false:=h30;exact⟨rb (by show _=(zh x.dt a d||((zh x.ct a d&&isW x d)||(zh x.rm a d||(zh f a d||((zh l a d&&(isR x a&&isR x d))||(zh s a d&&(isW x a&&isW x d)))))));rw [h1,h2,h18,h19,h20,h29,h30];rfl),hbw⟩
      ·have h29:zh s a d=false:=h29;exact brF ⟨rb (by show _=(zh x.dt a d||((zh x.ct a d&&isW x d)||(zh x.rm a d||(zh f a d||((zh l a d&&(isR x a&&isR x d))||(zh s a d&&(isW x a&&isW x d)))))));rw [h1,h2,h18,h19,h20,h29];rfl),hbw⟩
end
end Go.Proofs.YtkpaomeeknegpaaGreatDoor
