/- Contracts of functions, and plain facts, for the law that the last text of this claim proves. -/
import Derived.Test.YtnadlhpkpnfmbaaGreatDoorD1
import Derived.Test.YtnadlhpkpnfmbaaGreatDoorD2
import Derived.Shelf.Strings.Builder1
import Derived.Shelf.Strings.Builder2
import Derived.Shelf.Small.Strs
import Derived.Shelf.Strings.BuilderF
import Derived.Shelf.Strings.Search1
import Derived.Shelf.Strings.Search2
import Derived.Shelf.Strings.Search3
import Derived.Shelf.Strings.Count
import Derived.Shelf.LaysM
import Derived.Shelf.Strings.Shaped
import Derived.Shelf.Strings.Prefix
import Derived.Shelf.Strings.Split
import Derived.Shelf.Strings.Replace
import Derived.Shelf.Bits.Mul64
import Derived.Shelf.Strings.Repeat
import Derived.Shelf.Unicode.DecodeSlow
import Derived.Test.YtnadlhpkpnfmbaaGreatDoorProg
import Derived.Test.YtnadlhpkpnfmbaaGreatDoorD5
import Derived.Test.YtnadlhpkpnfmbaaGreatDoorD4
import Derived.Lib.AppendStr
set_option linter.unusedSimpArgs false
set_option linter.unusedVariables false
namespace Go.Proofs.YtnadlhpkpnfmbaaGreatDoor
open Go.Vc Go.RowKit Go.Sei
def u8n (n:Nat):Value := .int .u8 (n:Nat)
def zb0:List Nat:=[0,0,1,2,3,4,0,0,0,0]
def zfn:List Int:=[-1,0,2,2,2,2,1,1,1,0]
def jY:List Bs:=[[],[],[124],[38],[92],[59],[94,45,49],[43],[42],[]]
structure GlobK (w:Wd):Prop where
 op:zw w ⟨3,0,none⟩ (qg.map zu)
 st:zw w ⟨1,0,none⟩ (zb0.map fun n=>i64 (n:Nat))
 sg:zw w ⟨2,0,none⟩ (jY.map zu)
 nd:zw w ⟨0,0,none⟩ (zfn.map i64)
 lt:3<w.heap.size
theorem GlobK.below {w w2:Wd} (h:GlobK w) (hb:Bw w w2):GlobK w2 :=
 ⟨zt hb h.op,zt hb h.st,zt hb h.sg,zt hb h.nd,nL h.lt hb.size⟩
theorem jb (c k:UInt8):decide ((c.toNat:Int)=(k.toNat:Int))=decide (c=k):=by
 rw [QH];constructor
 ·intro h;exact Uh.1 (by omega)
 ·rintro rfl;rfl
theorem zeE {s:Bs} {k:Nat} (h:k<s.length):(bs s).data.toList[k]?=some s[k]:=by
 show s[k]?=_;exact gE h
theorem zhr (c:UInt8) (w:Wd):Calls PG 156 #[u8 c] w fun e w'=>e = .returned (.bool (zbk c))/\w=w':=by
 refine zJ 9 [u8 c] Tryz.func156 ?_;refine biE (fun h=>?_) fun h=>?_
 ·have h:(97:Int)<=(c.toNat:Int):=dT h;refine⟨rb ?_,rfl⟩;unfold zbk;rw [Uu (p:=97<=c.toNat) (by omega),UA];show decide ((c.toNat:Int)<=122)=_;rw [QH];omega
 ·have h:¬ (97:Int)<=(c.toNat:Int):=dF h;refine⟨rb ?_,rfl⟩;unfold zbk;rw [Uj (p:=97<=c.toNat) (by omega)];rfl
theorem zjX (c:UInt8) (w:Wd):Calls PG 160 #[u8 c] w fun e w'=>e = .returned (.bool (jW c))/\w=w':=by
 refine zJ 9 [u8 c] Tryz.func160 ?_;refine biE (fun h=>?_) fun h=>?_
 ·have h:(65:Int)<=(c.toNat:Int):=dT h;refine⟨rb ?_,rfl⟩;unfold jW;rw [Uu (p:=65<=c.toNat) (by omega),UA];show decide ((c.toNat:Int)<=90)=_;rw [QH];omega
 ·have h:¬ (65:Int)<=(c.toNat:Int):=dF h;refine⟨rb ?_,rfl⟩;unfold jW;rw [Uj (p:=65<=c.toNat) (by omega)];rfl
theorem zq3 (c:UInt8) (w:Wd):Calls PG 154 #[u8 c] w fun e w'=>e = .returned (.bool (jv c))/\w=w':=by
 refine zJ 9 [u8 c] Tryz.func154 ?_;unfold jv;refine biE (fun h=>?_) fun h=>?_
 ·have h:decide (c=32)=true:=(jb c 32).symm.trans h;exact⟨rb (by rw [h];rfl),rfl⟩
 ·have h:decide (c=32)=false:=(jb c 32).symm.trans h;exact⟨rb (by rw [h];exact jb c 9),rfl⟩
theorem zr7 (c:UInt8) (w:Wd):Calls PG 155 #[u8 c] w fun e w'=>e = .returned (.bool (zfk c))/\w=w':=by
 refine zJ 5 [u8 c] Tryz.func155 ?_;refine⟨rb ?_,rfl⟩;unfold zfk;have:=jb c 10;rw [decide_not,<- this];rfl
theorem zqo (c:UInt8) (w:Wd):Calls PG 157 #[u8 c] w fun e w'=>e = .returned (.bool (qO c))/\w=w':=by
 refine zJ 17 [u8 c] Tryz.func157 ?_;refine cmo (zhr c w) ?_;rintro e _ ⟨rfl,rfl⟩;unfold qO;refine biE (fun h=>?_) fun h=>?_
 ·have h:zbk c=true:=h;refine brT ?_;exact⟨rb (by rw [h];rfl),rfl⟩
 have h:zbk c=false:=h;rw [h];refine biE (fun h1=>?_) fun h1=>?_
 ·have h1:(48:Int)<=(c.toNat:Int):=dT h1;have e1:decide (48<=c.toNat)=true:=Uu (by omega);rw [e1];refine biE (fun h2=>?_) fun h2=>?_
  ·have h2:(c.toNat:Int)<=57:=dT h2;exact⟨rb (by rw [Uu (p:=c.toNat<=57) (by omega)];rfl),rfl⟩
  ·have h2:¬ (c.toNat:Int)<=57:=dF h2;exact⟨rb (by rw [Uj (p:=c.toNat<=57) (by omega)];exact jb c 45),rfl⟩
 ·have h1:¬ (48:Int)<=(c.toNat:Int):=dF h1;refine brF ?_;exact⟨rb (by rw [Uj (p:=48<=c.toNat) (by omega)];exact jb c 45),rfl⟩
theorem zcp {p:UInt8->Bool} {s:Bs} {k:Nat} (h:k<s.length):jm p s k=if p s[k] then jm p s (k+1) else k:=by
 unfold jm zci;rw [Jo h,Km]
 split
 ·rw [Qs];omega
 ·rfl
theorem zfa {p:UInt8->Bool} {s:Bs} {k:Nat} (h:s.length<=k):jm p s k=k:=by
 unfold jm zci;rw [JA h];rfl
theorem zc8 {p:UInt8->Bool} {s:Bs} {k:Nat} (h:k<=s.length):jm p s k<=s.length:=by
 unfold jm zci;have:=(List.takeWhile_sublist p (l:=s.drop k)).length_le;rw [Qt] at this;omega
theorem zka {p:UInt8->Bool} {s:Bs} {k:Nat}:k<=jm p s k:=Qy _ _
theorem zj9 {p:UInt8->Bool} {s:Bs} {k:Nat}:(s.drop k).take (jm p s k-k)=zci p s k:=by
 unfold jm;rw [Jw];unfold zci;exact (List.prefix_iff_eq_take.1 (List.takeWhile_prefix p)).symm
theorem zn7 (s:Bs) (a:Nat) (ha:a<=s.length) (hs:s.length<=140737488351232) (w:Wd):Calls PG 153 #[zu s,i64 (a:Nat),.func (.func 154) #[] #[]] w fun e w'=>e = .returned (i64 (jm jv s a:Nat))/\w=w':=by
 refine zJ 21 [zu s,i64 (a:Nat),.func (.func 154) #[] #[]] Tryz.func153 ?_;refine⟨Nat,fun k=>⟨[(0,zu s),(1,.int .i64 (k:Nat)),(2,.func (.func 154) #[] #[])],[]⟩,fun k X=>k<=s.length/\jm jv s k=jm jv s a/\w=X,fun k=>s.length-k,a,(cvE rfl rfl),⟨ha,rfl,rfl⟩,?_⟩;rintro k _ ⟨hk,he,rfl⟩;dsimp only at hk he ⊢;refine biE (fun hc=>?_) fun hc=>?_
 ·have hc:(k:Int)<(s.length:Int):=dT hc;have hl:k<s.length:=by omega
  refine⟨k,rfl,hl,s[k],zeE hl,?_⟩;refine cmo (zq3 _ _) ?_;rintro e _ ⟨rfl,rfl⟩;refine biE (fun hi=>?_) fun hi=>?_
  ·have hi:jv s[k]=true:=hi;refine⟨(k+1:Nat),(zk (by omega)).trans (by omega),?_⟩;refine⟨k+1,(cvE rfl rfl),⟨hl,?_,rfl⟩,zdc (by omega)⟩;rw [zcp hl,Gz hi] at he;exact he
  ·have hi:jv s[k]=false:=hi;rw [zcp hl,Gy (by rw [hi];exact Ku)] at he;exact⟨by rw [<- he];rfl,rfl⟩
 ·have hc:¬ (k:Int)<(s.length:Int):=dF hc;refine brF ?_;rw [zfa (by omega)] at he;exact⟨by rw [<- he];rfl,rfl⟩
theorem zpC (s:Bs) (a:Nat) (ha:a<=s.length) (hs:s.length<=140737488351232) (w:Wd):Calls PG 153 #[zu s,i64 (a:Nat),.func (.func 155) #[] #[]] w fun e w'=>e = .returned (i64 (jm zfk s a:Nat))/\w=w':=by
 refine zJ 21 [zu s,i64 (a:Nat),.func (.func 155) #[] #[]] Tryz.func153 ?_;refine⟨Nat,fun k=>⟨[(0,zu s),(1,.int .i64 (k:Nat)),(2,.func (.func 155) #[] #[])],[]⟩,fun k X=>k<=s.length/\jm zfk s k=jm zfk s a/\w=X,fun k=>s.length-k,a,(cvE rfl rfl),⟨ha,rfl,rfl⟩,?_⟩;rintro k _ ⟨hk,he,rfl⟩;dsimp only at hk he ⊢;refine biE (fun hc=>?_) fun hc=>?_
 ·have hc:(k:Int)<(s.length:Int):=dT hc;have hl:k<s.length:=by omega
  refine⟨k,rfl,hl,s[k],zeE hl,?_⟩;refine cmo (zr7 _ _) ?_;rintro e _ ⟨rfl,rfl⟩;refine biE (fun hi=>?_) fun hi=>?_
  ·have hi:zfk s[k]=true:=hi;refine⟨(k+1:Nat),(zk (by omega)).trans (by omega),?_⟩;refine⟨k+1,(cvE rfl rfl),⟨hl,?_,rfl⟩,zdc (by omega)⟩;rw [zcp hl,Gz hi] at he;exact he
  ·have hi:zfk s[k]=false:=hi;rw [zcp hl,Gy (by rw [hi];exact Ku)] at he;exact⟨by rw [<- he];rfl,rfl⟩
 ·have hc:¬ (k:Int)<(s.length:Int):=dF hc;refine brF ?_;rw [zfa (by omega)] at he;exact⟨by rw [<- he];rfl,rfl⟩
theorem zir (s:Bs) (a:Nat) (ha:a<=s.length) (hs:s.length<=140737488351232) (w:Wd):Calls PG 153 #[zu s,i64 (a:Nat),.func (.func 157) #[] #[]] w fun e w'=>e = .returned (i64 (jm qO s a:Nat))/\w=w':=by
 refine zJ 21 [zu s,i64 (a:Nat),.func (.func 157) #[] #[]] Tryz.func153 ?_;refine⟨Nat,fun k=>⟨[(0,zu s),(1,.int .i64 (k:Nat)),(2,.func (.func 157) #[] #[])],[]⟩,fun k X=>k<=s.length/\jm qO s k=jm qO s a/\w=X,fun k=>s.length-k,a,(cvE rfl rfl),⟨ha,rfl,rfl⟩,?_⟩;rintro k _ ⟨hk,he,rfl⟩;dsimp only at hk he ⊢;refine biE (fun hc=>?_) fun hc=>?_
 ·have hc:(k:Int)<(s.length:Int):=dT hc;have hl:k<s.length:=by omega
  refine⟨k,rfl,hl,s[k],zeE hl,?_⟩;refine cmo (zqo _ _) ?_;rintro e _ ⟨rfl,rfl⟩;refine biE (fun hi=>?_) fun hi=>?_
  ·have hi:qO s[k]=true:=hi;refine⟨(k+1:Nat),(zk (by omega)).trans (by omega),?_⟩;refine⟨k+1,(cvE rfl rfl),⟨hl,?_,rfl⟩,zdc (by omega)⟩;rw [zcp hl,Gz hi] at he;exact he
  ·have hi:qO s[k]=false:=hi;rw [zcp hl,Gy (by rw [hi];exact Ku)] at he;exact⟨by rw [<- he];rfl,rfl⟩
 ·have hc:¬ (k:Int)<(s.length:Int):=dF hc;refine brF ?_;rw [zfa (by omega)] at he;exact⟨by rw [<- he];rfl,rfl⟩
theorem zn6 (s:Bs) (a:Nat) (ha:a<=s.length) (hs:s.length<=140737488351232) (w:Wd):Calls PG 153 #[zu s,i64 (a:Nat),.func (.func 160) #[] #[]] w fun e w'=>e = .returned (i64 (jm jW s a:Nat))/\w=w':=by
 refine zJ 21 [zu s,i64 (a:Nat),.func (.func 160) #[] #[]] Tryz.func153 ?_;refine⟨Nat,fun k=>⟨[(0,zu s),(1,.int .i64 (k:Nat)),(2,.func (.func 160) #[] #[])],[]⟩,fun k X=>k<=s.length/\jm jW s k=jm jW s a/\w=X,fun k=>s.length-k,a,(cvE rfl rfl),⟨ha,rfl,rfl⟩,?_⟩;rintro k _ ⟨hk,he,rfl⟩;dsimp only at hk he ⊢;refine biE (fun hc=>?_) fun hc=>?_
 ·have hc:(k:Int)<(s.length:Int):=dT hc;have hl:k<s.length:=by omega
  refine⟨k,rfl,hl,s[k],zeE hl,?_⟩;refine cmo (zjX _ _) ?_;rintro e _ ⟨rfl,rfl⟩;refine biE (fun hi=>?_) fun hi=>?_
  ·have hi:jW s[k]=true:=hi;refine⟨(k+1:Nat),(zk (by omega)).trans (by omega),?_⟩;refine⟨k+1,(cvE rfl rfl),⟨hl,?_,rfl⟩,zdc (by omega)⟩;rw [zcp hl,Gz hi] at he;exact he
  ·have hi:jW s[k]=false:=hi;rw [zcp hl,Gy (by rw [hi];exact Ku)] at he;exact⟨by rw [<- he];rfl,rfl⟩
 ·have hc:¬ (k:Int)<(s.length:Int):=dF hc;refine brF ?_;rw [zfa (by omega)] at he;exact⟨by rw [<- he];rfl,rfl⟩
theorem zqc (s:Bs):zbK s<=4:=by
 have:=List.findIdx_le_length (xs:=qg) (p:=fun w=>decide (w=s));exact this
def zdY (s:Bs):Int:=if zbK s<4 then (zbK s:Nat) else -1
theorem zqd {s:Bs} {k:Nat} (hk:k<qg.length) (h:qg[k]=s) (hno:∀ j (hj:j<qg.length),j<k->qg[j]≠s):zbK s=k:=by
 unfold zbK;have h2:qg.findIdx (fun w=>decide (w=s))<=k:=by
  refine Nat.le_of_not_lt fun hlt2=>?_;have:=List.not_of_lt_findIdx hlt2;simp [h] at this
 have h3:qg.findIdx (fun w=>decide (w=s))<qg.length:=KE h2 hk;have h4:qg[qg.findIdx (fun w=>decide (w=s))]=s:=by
  have:=List.findIdx_getElem (w:=h3);exact dT this
 rcases Nat.lt_or_ge (qg.findIdx (fun w=>decide (w=s))) k with h5 | h5
 ·exact GA h4 (hno _ h3 h5)
 ·omega
theorem zkJ (s:Bs) (w:Wd) (hg:GlobK w):Calls PG 106 #[zu s] w fun e w'=>e = .returned (i64 (zdY s))/\w=w':=by
 refine zJ 15 [zu s] Tryz.func106 ?_;refine⟨qg.map zu,rfl,hg.op,hg.lt,?_⟩;refine⟨Nat,fun k=>⟨[(0,zu s),(5,.agg (qg.map zu).toArray),(6,.int .i64 (k:Nat))],[]⟩,fun k V=>k<=4/\(∀ j (hj:j<qg.length),j<k->qg[j]≠s)/\w=V,fun k=>4-k,0,
  (cvE rfl rfl),⟨Gg _,fun _ _ h=>GA h (by omega),rfl⟩,?_⟩
 rintro k _ ⟨hk,hno,rfl⟩;refine biE (fun h=>?_) fun h=>?_
 ·have h:(k:Int)<4:=dT h;have hkl:k<qg.length:=by show k<4;omega
  refine⟨k,rfl,by omega,?_⟩;have hget:(qg.map zu)[k*1]?=some (zu qg[k]):=by
   rw [Gf,KU,gE hkl];rfl
  refine zbv hget ?_;refine⟨_,fun w=>zF _ _ qg[k] s w,?_⟩;refine biE (fun h1=>?_) fun h1=>?_
  ·have h1:qg[k]=s:=dT h1;have hi:=zqd hkl h1 hno;refine Gp ?_ rfl;unfold zdY;rw [hi,Gz (by omega)];rfl
  ·have h1:¬ qg[k]=s:=dF h1;refine⟨(k+1:Nat),(zk (by omega)).trans (by omega),?_⟩;refine⟨k+1,(cvE rfl rfl),⟨by omega,fun j hj hjk=>?_,rfl⟩,by dsimp only;omega⟩;by_cases e:j=k
   ·subst e;exact h1
   ·exact hno j hj (by omega)
 ·have h:¬ (k:Int)<4:=dF h;have hi:¬ zbK s<4:=fun h3=>by
   have h3:qg.findIdx (fun w=>decide (w=s))<qg.length:=h3;have h4:qg[qg.findIdx (fun w=>decide (w=s))]=s:=dT (List.findIdx_getElem (w:=h3));exact hno _ h3 (by have:qg.length=4:=rfl;omega) h4
  refine Gp ?_ rfl;unfold zdY;rw [Gy hi];rfl
theorem zoy (s:Bs):decide ((0:Int)<=zdY s)=decide (zbK s<4):=by
 unfold zdY;rw [QH]
 split <;> omega
theorem znj (s:Bs) (w:Wd) (hg:GlobK w):Calls PG 158 #[zu s] w fun e w'=>e = .returned (.bool (zoz s))/\w=w':=by
 refine zJ 10 [zu s] Tryz.func158 ?_;unfold zoz;refine⟨_,fun w=>zF _ _ s [97,115] w,?_⟩;refine biE (fun h=>?_) fun h=>?_
 ·have h:decide (s=[97,115])=true:=h;exact⟨rb (by rw [h];rfl),rfl⟩
 ·have h:decide (s=[97,115])=false:=h;rw [h];refine cmo (zkJ s w hg) ?_;rintro e _ ⟨rfl,rfl⟩;exact⟨rb (zoy s),rfl⟩
theorem qI {s w:Bs} (h:decide (s=w)=false):decide (w=s)=false:=Uj fun e=>dF h e.symm
theorem zgS (s:Bs) (w:Wd):Calls PG 93 #[zu s] w fun e w'=>e = .returned (.bool (zal s))/\w=w':=by
 refine zJ 16 [zu s] Tryz.func93 ?_;refine⟨_,fun w=>zF _ _ s [112,111] w,?_⟩;refine biE (fun h0=>?_) fun h0=>?_
 ·refine brE h0 ?_;have e:s=[112,111]:=dT h0;exact⟨rb (by rw [e];rfl),rfl⟩
 refine⟨_,fun w=>zF _ _ s [114,102] w,?_⟩;refine biE (fun h1=>?_) fun h1=>?_
 ·refine brE h1 ?_;have e:s=[114,102]:=dT h1;exact⟨rb (by rw [e];rfl),rfl⟩
 refine⟨_,fun w=>zF _ _ s [99,111] w,?_⟩;refine biE (fun h2=>?_) fun h2=>?_
 ·refine brE h2 ?_;have e:s=[99,111]:=dT h2;exact⟨rb (by rw [e];rfl),rfl⟩
 refine⟨_,fun w=>zF _ _ s [102,114] w,?_⟩;refine biE (fun h3=>?_) fun h3=>?_
 ·refine brE h3 ?_;have e:s=[102,114]:=dT h3;exact⟨rb (by rw [e];rfl),rfl⟩
 refine⟨_,fun w=>zF _ _ s [114,109,119] w,?_⟩;refine biE (fun h4=>?_) fun h4=>?_
 ·refine brE h4 ?_;have e:s=[114,109,119]:=dT h4;exact⟨rb (by rw [e];rfl),rfl⟩
 refine⟨_,fun w=>zF _ _ s [100,97,116,97] w,?_⟩;refine biE (fun h5=>?_) fun h5=>?_
 ·refine brE h5 ?_;have e:s=[100,97,116,97]:=dT h5;exact⟨rb (by rw [e];rfl),rfl⟩
 refine⟨_,fun w=>zF _ _ s [99,116,114,108] w,?_⟩;refine biE (fun h6=>?_) fun h6=>?_
 ·refine brE h6 ?_;have e:s=[99,116,114,108]:=dT h6;exact⟨rb (by rw [e];rfl),rfl⟩
 refine⟨_,fun w=>zF _ _ s [108,111,99] w,?_⟩;refine biE (fun h7=>?_) fun h7=>?_
 ·refine brE h7 ?_;have e:s=[108,111,99]:=dT h7;exact⟨rb (by rw [e];rfl),rfl⟩
 refine⟨_,fun w=>zF _ _ s [105,100] w,?_⟩;refine biE (fun h8=>?_) fun h8=>?_
 ·refine brE h8 ?_;have e:s=[105,100]:=dT h8;exact⟨rb (by rw [e];rfl),rfl⟩
 refine⟨_,fun w=>zF _ _ s [101,120,116] w,?_⟩;refine biE (fun h9=>?_) fun h9=>?_
 ·refine brE h9 ?_;have e:s=[101,120,116]:=dT h9;exact⟨rb (by rw [e];rfl),rfl⟩
 refine⟨_,fun w=>zF _ _ s [105,110,116] w,?_⟩;refine biE (fun h10=>?_) fun h10=>?_
 ·have e:s=[105,110,116]:=dT h10;exact⟨rb (by rw [e];rfl),rfl⟩
 refine⟨rb ?_,rfl⟩;unfold zal;simp only [UE,List.any_nil,qI h0,qI h1,qI h2,qI h3,qI h4,qI h5,qI h6,qI h7,qI h8,qI h9,qI h10,Uz]
theorem zni (s:Bs) (w:Wd):Calls PG 94 #[zu s] w fun e w'=>e = .returned (.bool (zh6 s))/\w=w':=by
 refine zJ 16 [zu s] Tryz.func94 ?_;refine⟨_,fun w=>zF _ _ s [82] w,?_⟩;refine biE (fun h0=>?_) fun h0=>?_
 ·refine brE h0 ?_;have e:s=[82]:=dT h0;exact⟨rb (by rw [e];rfl),rfl⟩
 refine⟨_,fun w=>zF _ _ s [87] w,?_⟩;refine biE (fun h1=>?_) fun h1=>?_
 ·refine brE h1 ?_;have e:s=[87]:=dT h1;exact⟨rb (by rw [e];rfl),rfl⟩
 refine⟨_,fun w=>zF _ _ s [70] w,?_⟩;refine biE (fun h2=>?_) fun h2=>?_
 ·refine brE h2 ?_;have e:s=[70]:=dT h2;exact⟨rb (by rw [e];rfl),rfl⟩
 refine⟨_,fun w=>zF _ _ s [77] w,?_⟩;refine biE (fun h3=>?_) fun h3=>?_
 ·refine brE h3 ?_;have e:s=[77]:=dT h3;exact⟨rb (by rw [e];rfl),rfl⟩
 refine⟨_,fun w=>zF _ _ s [65] w,?_⟩;refine biE (fun h4=>?_) fun h4=>?_
 ·refine brE h4 ?_;have e:s=[65]:=dT h4;exact⟨rb (by rw [e];rfl),rfl⟩
 refine⟨_,fun w=>zF _ _ s [76] w,?_⟩;refine biE (fun h5=>?_) fun h5=>?_
 ·refine brE h5 ?_;have e:s=[76]:=dT h5;exact⟨rb (by rw [e];rfl),rfl⟩
 refine⟨_,fun w=>zF _ _ s [88] w,?_⟩;refine biE (fun h6=>?_) fun h6=>?_
 ·refine brE h6 ?_;have e:s=[88]:=dT h6;exact⟨rb (by rw [e];rfl),rfl⟩
 refine⟨_,fun w=>zF _ _ s [70,70] w,?_⟩;refine biE (fun h7=>?_) fun h7=>?_
 ·refine brE h7 ?_;have e:s=[70,70]:=dT h7;exact⟨rb (by rw [e];rfl),rfl⟩
 refine⟨_,fun w=>zF _ _ s [70,76] w,?_⟩;refine biE (fun h8=>?_) fun h8=>?_
 ·refine brE h8 ?_;have e:s=[70,76]:=dT h8;exact⟨rb (by rw [e];rfl),rfl⟩
 refine⟨_,fun w=>zF _ _ s [70,83] w,?_⟩;refine biE (fun h9=>?_) fun h9=>?_
 ·refine brE h9 ?_;have e:s=[70,83]:=dT h9;exact⟨rb (by rw [e];rfl),rfl⟩
 refine⟨_,fun w=>zF _ _ s [73] w,?_⟩;refine biE (fun h10=>?_) fun h10=>?_
 ·have e:s=[73]:=dT h10;exact⟨rb (by rw [e];rfl),rfl⟩
 refine⟨rb ?_,rfl⟩;unfold zh6;simp only [UE,List.any_nil,qI h0,qI h1,qI h2,qI h3,qI h4,qI h5,qI h6,qI h7,qI h8,qI h9,qI h10,Uz]
def qk (t:Tk):List Value:=[u8n t.kind,zu t.text,i64 (t.at_:Nat)]
theorem zj4 (k:Nat) (t:Bs) (a:Nat) (w:Wd):CB 159 #[u8n k,zu t,i64 (a:Nat)] w (.agg (qk (zaF k t a)).toArray):=by
 refine zJ 16 [u8n k,zu t,i64 (a:Nat)] Tryz.func159 ?_;have f0:=zz w (.cells #[.int .u8 0,zu [],i64 0] 134);have b0:Bw w (w.alloc (.cells #[.int .u8 0,zu [],i64 0] 134)):=zba w _;have fin:∀ {T:Tk} {K:Wd->Prop},(∀ Y,Bw w Y->Y.heap[w.heap.size]?=some (.cells (qk T).toArray 134 (0,0))->K Y)->SatR ((storeVar 134 ⟨w.heap.size,0,none⟩ (.agg (qk T).toArray)).run PG (w.alloc (.cells #[.int .u8 0,zu [],i64 0] 134))) fun _ w'=>K w' :=
  fun {T K} k=>zr zus f0 rfl rfl rfl (k _ (zj b0 (Ge _) _) (zm f0))
 refine biE (fun h=>?_) fun h=>?_
 ·have h:(16:Int)<(t.length:Int):=dT h;have e1:zaF k t a=⟨0,[],a⟩:=by unfold zaF;rw [Gz (by omega)]
  rw [e1];refine⟨qk ⟨0,[],a⟩,rfl,?_⟩;refine fin (T:=⟨0,[],a⟩) fun Y hb f=>?_;exact⟨qk ⟨0,[],a⟩,rfl,za f,rfl,hb⟩
 ·have h:¬ (16:Int)<(t.length:Int):=dF h;have e1:zaF k t a=⟨k,t,a⟩:=by unfold zaF;rw [Gy (by omega)]
  rw [e1];refine⟨qk ⟨k,t,a⟩,rfl,?_⟩;refine fin (T:=⟨k,t,a⟩) fun Y hb f=>?_;exact⟨qk ⟨k,t,a⟩,rfl,za f,rfl,hb⟩
end Go.Proofs.YtnadlhpkpnfmbaaGreatDoor
namespace Go.Proofs
open Go.Shelf
def Tryz.lays137_ren:Go.Shelf.Ren:=⟨fun | 137=>161 | 217=>204 | 266=>235 | n=>n,fun | 9=>9 | 5=>5 | 3=>3 | n=>n,fun | n=>n⟩
theorem Tryz.lays137:Go.Proofs.Lays.n137 PG Tryz.lays137_ren:={
 mixed:=by kernel_rfl
 f137:=Tryz.func161.trans (Gs some (by kernel_rfl))
 f217:=Tryz.func204.trans (Gs some (by kernel_rfl))
 f266:=Tryz.func235.trans (Gs some (by kernel_rfl))
 t3:=Tryz.underlying3
 a3:=Tryz.isAgg3
 z3:=Tryz.sizeOf3
 v3:=Tryz.zeroValue3
 t5:=Tryz.underlying5
 a5:=Tryz.isAgg5
 z5:=Tryz.sizeOf5
 v5:=Tryz.zeroValue5
 t9:=Tryz.underlying9
 a9:=Tryz.isAgg9
 z9:=Tryz.sizeOf9
 v9:=Tryz.zeroValue9 }
open Go.RowKit in
theorem Tryz.strings_IndexByte (s:ByteArray) (c:Int) (w:Wd) :
  Calls PG 161 #[.string s,.int .u8 c] w fun e w'=>e = .returned (.int .i64 (Lib.indexByte s.data.toList c.toNat.toUInt8))∧w'=w:=Any.strings_IndexByte Tryz.lays137 s c w
def Tryz.lays99_ren:Go.Shelf.Ren:=⟨fun | 99=>73 | 206=>124 | n=>n,fun | 9=>9 | 4=>4 | 3=>3 | n=>n,fun | n=>n⟩
theorem Tryz.lays99:Go.Proofs.Lays.n99 PG Tryz.lays99_ren:={
 mixed:=by kernel_rfl
 f99:=Tryz.func73.trans (Gs some (by kernel_rfl))
 f206:=Tryz.func124.trans (Gs some (by kernel_rfl))
 t3:=Tryz.underlying3
 a3:=Tryz.isAgg3
 z3:=Tryz.sizeOf3
 v3:=Tryz.zeroValue3
 t4:=Tryz.underlying4
 a4:=Tryz.isAgg4
 z4:=Tryz.sizeOf4
 v4:=Tryz.zeroValue4
 t9:=Tryz.underlying9
 a9:=Tryz.isAgg9
 z9:=Tryz.sizeOf9
 v9:=Tryz.zeroValue9 }
open Go.RowKit Go.Lib in
theorem Tryz.strings_HasPrefix (s p:ByteArray) (w:Wd) :
  Calls PG 73 #[.string s,.string p] w fun e w'=>e = .returned (.bool (Lib.hasPrefix s.data.toList p.data.toList))∧w'=w:=Any.strings_HasPrefix Tryz.lays99 s p w
end Go.Proofs
namespace Go.Proofs.YtnadlhpkpnfmbaaGreatDoor
open Go.Vc Go.RowKit Go.Sei
theorem zqu (l:Bs) (c:UInt8):decide ((0:Int)<=Lib.indexByte l c)=decide (c∈l):=by
 have low:∀ l:Bs,-1<=Lib.indexByte l c:=fun l=>by
  induction l with
  | nil=>exact Int.le_refl _
  | cons b r ih =>
   unfold Lib.indexByte
   split
   ·omega
   ·split <;> omega
 rw [QH]
 induction l with
 | nil=>exact⟨fun h=>GA h (by unfold Lib.indexByte;decide),fun h=>by cases h⟩
 | cons b r ih =>
  unfold Lib.indexByte;by_cases hb:b=c
  ·subst hb;rw [Gz (by simp)];exact⟨fun _=>Kz,fun _=>Int.le_refl _⟩
  ·rw [Gy (by simpa using hb)];have hl:=low r;by_cases h1:Lib.indexByte r c = -1
   ·rw [Gz (by simpa using h1)];refine⟨fun h=>GA h (by decide),fun h=>?_⟩;rcases UG.1 h with h | h
    ·exact GA h.symm hb
    ·have:=ih.2 h;omega
   ·rw [Gy (by simpa using h1)];refine⟨fun _=>JW _ (ih.1 (by omega)),fun _=>by omega⟩
theorem zw9 (s:Bs) (a:Nat):Lib.hasPrefix (s.drop a) [94,45,49]=decide ((s.drop a).take 3=[94,45,49]):=by
 unfold Lib.hasPrefix;rw [Bool.eq_iff_iff,List.isPrefixOf_iff_prefix,dE,List.prefix_iff_eq_take];exact eq_comm
theorem zmT {s:Bs} {a:Nat} (h:a<=s.length):zcm s a<=s.length:=by
 unfold zcm
 split
 ·exact zc8 (zc8 h)
 ·exact zc8 h
theorem zrB {s:Bs} {a:Nat} (h:a<=s.length):(zaX s a).at_+(zaX s a).text.length<=s.length:=by
 have sh:∀ {k:Nat} {t:Bs} {a:Nat},a+t.length<=s.length->(zaF k t a).at_+(zaF k t a).text.length<=s.length:=fun {k t a} h=>by
  unfold zaF
  split
  ·show a+0<=_;omega
  ·exact h
 have rl:∀ {p:UInt8->Bool},a+(zci p s a).length<=s.length:=fun {p}=>zc8 h;unfold zaX
 split
 ·exact h
 ·rename_i c hc;have hl:=(Jq.1 hc).1
  split
  ·show a+1<=_;omega
  ·split
   ·split
    ·exact rl
    ·exact sh rl
   ·split
    ·exact sh rl
    ·split
     ·show a+1<=_;omega
     ·split
      ·rename_i h3;have:=Gs List.length h3;rw [Qu,Qt] at this;show a+3<=_;simp at this;omega
      ·exact h
theorem zpB {s:Bs} {a:Nat} (h:a<=s.length):(zH s a).at_+(zH s a).text.length<=s.length:=zrB (zmT h)
theorem zgW (s:Bs) (a b:Nat):(bs s).extract a b=bs ((s.drop a).take (b-a)):=by
 have:((bs s).extract a b).data.toList=(s.drop a).take (b-a):=by
  simp [bs]
 have h2:(bs ((s.drop a).take (b-a))).data.toList=(s.drop a).take (b-a):=rfl;exact Gs (fun l:List UInt8=>(⟨⟨l⟩⟩:ByteArray)) (this.trans h2.symm)
section
variable {s:Bs} {a:Nat} {w:Wd}
theorem zrK (hg:GlobK w) (ha:a<=s.length) (hs:s.length<=140737488351232):CB 105 #[zu s,i64 (a:Nat)] w (.agg (qk (zH s a)).toArray):=by
 refine qa 90 [zu s,i64 (a:Nat)] (.c .p (.s .p (.c .p .p))) Tryz.func105 ?_;refine⟨Unit,fun _=>⟨[(0,zu s),(1,i64 (a:Nat)),(4,At0 w.heap.size)],[]⟩,fun _ X=>X.heap[w.heap.size]?=some (.cells #[.int .u8 0,zu [],i64 0] 134 (0,0))/\Bw w X,⟨(),(cvE rfl rfl),zz w _,zba _ _⟩,?_⟩;rintro _ X ⟨f0,b0⟩;have gX:=hg.below b0;refine cmo (zn7 s a ha hs X) ?_;rintro e _ ⟨rfl,rfl⟩;have h1:=zc8 (p:=jv) ha;obtain⟨k,hk⟩:=nm (zcm s a);have hkl:k<=s.length:=by rw [hk];exact zmT ha
 refine⟨Unit,fun _=>⟨[(0,zu s),(1,i64 (k:Nat)),(4,.pointer (some ⟨w.heap.size,0,none⟩))],[]⟩,fun _ Y=>X=Y,?_,?_⟩
 ·have no:∀ {n:Nat},n=jm jv s a->s[n]?≠some 35->n=k:=fun {n} e h=>by
   rw [hk,e];unfold zcm;rw [Gy (by rw [<- e];exact h)]
  refine biE (fun hc=>?_) fun hc=>?_
  ·have hc:(jm jv s a:Int)<(s.length:Int):=dT hc;have hl:jm jv s a<s.length:=by omega
   refine⟨jm jv s a,rfl,hl,s[jm jv s a],zeE hl,biE (fun h2=>?_) fun h2=>?_⟩
   ·have h2:s[jm jv s a]=35:=dT ((jb _ 35).symm.trans h2);refine cmo (zpC s (jm jv s a) h1 hs X) ?_;rintro e _ ⟨rfl,rfl⟩;have e:jm zfk s (jm jv s a)=k:=by
     rw [hk];unfold zcm;rw [Gz (by rw [gE hl,h2])]
    exact⟨(),⟨.cons rfl (.cons (Gs (fun n:Nat=>some (i64 (n:Nat))) e) (.cons rfl .nil)),rfl⟩,rfl⟩
   ·have h2:s[jm jv s a]≠35:=dF ((jb _ 35).symm.trans h2);have e:=no rfl (by rw [gE hl];intro e;exact h2 (Ug e));exact⟨(),⟨.cons rfl (.cons (Gs (fun n:Nat=>some (i64 (n:Nat))) e) (.cons rfl .nil)),rfl⟩,rfl⟩
  ·have hc:¬ (jm jv s a:Int)<(s.length:Int):=dF hc;refine brF ?_;have e:=no rfl (by rw [JJ (by omega)];exact fun h=>by cases h);exact⟨(),⟨.cons rfl (.cons (Gs (fun n:Nat=>some (i64 (n:Nat))) e) (.cons rfl .nil)),rfl⟩,rfl⟩
 rintro _ _ rfl;have es:zH s a=zaX s k:=by rw [hk];rfl
 rw [es];clear es hk h1;have fin:∀ {T:Tk} {Z:Wd} {K:Wd->Prop},Bw X Z->(∀ Y,Bw w Y->Y.heap[w.heap.size]?=some (.cells (qk T).toArray 134 (0,0))->K Y)->SatR ((storeVar 134 ⟨w.heap.size,0,none⟩ (.agg (qk T).toArray)).run PG Z) fun _ w'=>K w' :=
  fun {T Z K} hb k=>zr zus (zb hb f0) rfl rfl rfl (k _ (zj ((zst b0 hb)) (Ge _) _) (zm (zb hb f0)))
 have out:∀ {T:Tk} {Y:Wd},Bw w Y->Y.heap[w.heap.size]?=some (.cells (qk T).toArray 134 (0,0))->T=zaX s k->∃ us:List Value,us.length=3/\zw Y ⟨w.heap.size,0,none⟩ us/\Ending.returned (j7 [.agg us.toArray]) = .returned (.agg (qk (zaX s k)).toArray)/\Bw w Y :=
  fun {T Y} hb f e=>⟨qk T,rfl,za f,by rw [e];rfl,hb⟩
 refine biE (fun hc=>?_) fun hc=>?_
 ·have hc:(k:Int)=(s.length:Int):=dT hc;refine⟨qk ⟨1,[],k⟩,rfl,fin (T:=⟨1,[],k⟩) (Gj _ _) fun Y hb f=>out hb f ?_⟩;unfold zaX;rw [JJ (by omega)]
 have hc:¬ (k:Int)=(s.length:Int):=dF hc;have hl:k<s.length:=by omega
 refine⟨k,rfl,hl,s[k],zeE hl,?_⟩;obtain⟨c,hcc⟩:=nm (s[k]);rw [<- hcc];have ek:s[k]?=some c:=by rw [gE hl,hcc]
 have ew:((k+1:Nat):Int)=(k:Int)+1:=by omega
 have cut1:(s.drop k).take 1=[c]:=by rw [Jo hl,hcc];rfl
 have hcut1:(bs s).extract k (k+1)=bs [c]:=by rw [zgW,Jw,cut1]
 refine biE (fun h10=>?_) fun h10=>?_
 ·have h10:c=10:=dT ((jb c 10).symm.trans h10);have e:zaX s k=⟨2,[c],k⟩:=by unfold zaX;rw [ek];simp only [Gz h10]
  refine⟨(k+1:Nat),(zk (by omega)).trans ew.symm,k+1,rfl,hl,k,rfl,by omega,?_⟩;refine⟨qk ⟨2,[c],k⟩,by rw [hcut1];rfl,?_⟩;exact fin (T:=⟨2,[c],k⟩) (Gj _ _) fun Y hb f=>out hb f e.symm
 have h10:c≠10:=dF ((jb c 10).symm.trans h10);refine cmo (zhr c X) ?_;rintro e _ ⟨rfl,rfl⟩;refine biE (fun hlo=>?_) fun hlo=>?_
 ·have hlo:zbk c=true:=hlo;refine cmo (zir s k hkl hs X) ?_;rintro e _ ⟨rfl,rfl⟩;have hr:=zc8 (p:=qO) hkl;refine⟨jm qO s k,rfl,hr,k,rfl,zka,?_⟩;have hcut:zu (zci qO s k) = .string ((bs s).extract k (jm qO s k)):=by rw [zgW,zj9];rfl
  have hik:=znj (zci qO s k) X gX;rw [hcut] at hik;refine cmo hik ?_;rintro e _ ⟨rfl,rfl⟩;refine biE (fun hk=>?_) fun hk=>?_
  ·have hk:zoz (zci qO s k)=true:=hk;refine⟨qk ⟨3,zci qO s k,k⟩,by rw [<- hcut];rfl,?_⟩;refine fin (T:=⟨3,zci qO s k,k⟩) (Gj _ _) fun Y hb f=>out hb f ?_;unfold zaX;rw [ek];simp only [Gy h10,Gz hlo,Gz hk]
  ·have hk:zoz (zci qO s k)=false:=hk;have hsh:=zj4 4 (zci qO s k) k X;rw [hcut] at hsh;refine cmo hsh ?_;rintro e Z ⟨rfl,hbZ⟩;refine fin (T:=zaF 4 (zci qO s k) k) hbZ fun Y hb f=>out hb f ?_;unfold zaX;rw [ek];simp only [Gy h10,Gz hlo,hk,Kt,Gt]
 have hlo:zbk c=false:=hlo;refine cmo (zjX c X) ?_;rintro e _ ⟨rfl,rfl⟩;refine biE (fun hup=>?_) fun hup=>?_
 ·have hup:jW c=true:=hup;refine cmo (zn6 s k hkl hs X) ?_;rintro e _ ⟨rfl,rfl⟩;have hr:=zc8 (p:=jW) hkl;refine⟨jm jW s k,rfl,hr,k,rfl,zka,?_⟩;have hcut:zu (zci jW s k) = .string ((bs s).extract k (jm jW s k)):=by rw [zgW,zj9];rfl
  have hsh:=zj4 5 (zci jW s k) k X;rw [hcut] at hsh;refine cmo hsh ?_;rintro e Z ⟨rfl,hbZ⟩;refine fin (T:=zaF 5 (zci jW s k) k) hbZ fun Y hb f=>out hb f ?_;unfold zaX;rw [ek];simp only [Gy h10,hlo,hup,Kt,Gt,Gx]
 have hup:jW c=false:=hup;refine cmo (Tryz.strings_IndexByte (bs zj3) (c.toNat:Int) X) ?_;rintro e X' ⟨rfl,hx'⟩;have hx':=hx'.symm;subst hx';have ec:((c.toNat:Int).toNat.toUInt8)=c:=by rw [KL];exact UInt8.ofNat_toNat
 rw [ec];have em:=zqu zj3 c;refine biE (fun hsg=>?_) fun hsg=>?_
 ·have hsg:c∈zj3:=dT (em.symm.trans hsg);have e:zaX s k=⟨6,[c],k⟩:=by unfold zaX;rw [ek];simp only [Gy h10,hlo,hup,Kt,Gt,Gz hsg]
  refine⟨(k+1:Nat),(zk (by omega)).trans ew.symm,k+1,rfl,hl,k,rfl,by omega,?_⟩;refine⟨qk ⟨6,[c],k⟩,by rw [hcut1];rfl,?_⟩;exact fin (T:=⟨6,[c],k⟩) (Gj _ _) fun Y hb f=>out hb f e.symm
 have hsg:c ∉ zj3:=dF (em.symm.trans hsg);refine⟨k,rfl,hkl,cmo (Tryz.strings_HasPrefix ((bs s).extract k (bs s).size) (bs [94,45,49]) X) ?_⟩;rintro e X' ⟨rfl,hx'⟩;have hx':=hx'.symm;subst hx';have ep:Lib.hasPrefix ((bs s).extract k (bs s).size).data.toList (bs [94,45,49]).data.toList=decide ((s.drop k).take 3=[94,45,49]):=by
  rw [<- zw9,zgW];show Lib.hasPrefix ((s.drop k).take (s.length-k)) _=_;rw [JE (by rw [Qt];omega)];rfl
 rw [ep];refine biE (fun hp=>?_) fun hp=>?_
 ·have hp:(s.drop k).take 3=[94,45,49]:=dT hp;refine⟨qk ⟨6,[94,45,49],k⟩,rfl,fin (T:=⟨6,[94,45,49],k⟩) (Gj _ _) fun Y hb f=>out hb f ?_⟩;unfold zaX;rw [ek];simp only [Gy h10,hlo,hup,Kt,Gt,Gy hsg,Gz hp]
 ·have hp:¬ (s.drop k).take 3=[94,45,49]:=dF hp;refine⟨qk ⟨0,[],k⟩,rfl,fin (T:=⟨0,[],k⟩) (Gj _ _) fun Y hb f=>out hb f ?_⟩;unfold zaX;rw [ek];simp only [Gy h10,hlo,hup,Kt,Gt,Gy hsg,Gy hp]
end
def zf (t:Trm) (p:OA) (cap:Nat):List Value:=[u8 t.kind,zu t.name,.slice p t.kids.length cap]
inductive KidsT (Q:Nat->Prop) (w:Wd):OA->List Trm->Prop
 | mk (p:OA) (kids:List Trm) (hn:kids.length<=140737488351232) (b o:Nat) (hp:kids.length=0\/p=some ⟨b,o,none⟩) (q:Nat->OA) (c:Nat->Nat)
   (hk:∀ i (h:i<kids.length),kids[i].name.length<=140737488351232/\Q b/\zw w ⟨b,o+i*3,none⟩ (zf kids[i] (q i) (c i)))
   (ht:∀ i (h:i<kids.length),KidsT Q w (q i) kids[i].kids):KidsT Q w p kids
section
variable {Q Q':Nat->Prop} {w w2:Wd} {p:OA} {kids:List Trm}
theorem KidsT.inv (h:KidsT Q w p kids):kids.length<=140737488351232/\∃ b o,(kids.length=0\/p=some ⟨b,o,none⟩) /\
  ∀ i (h:i<kids.length),∃ q c,kids[i].name.length<=140737488351232/\Q b/\zw w ⟨b,o+i*3,none⟩ (zf kids[i] q c)/\KidsT Q w q kids[i].kids:=by
 cases h with
 | mk _ _ hn b o hp q c hk ht=>exact⟨hn,b,o,hp,fun i hi=>⟨q i,c i,(hk i hi).1,(hk i hi).2.1,(hk i hi).2.2,ht i hi⟩⟩
theorem KidsT.by (hs:∀ (g:Nat) (cs:Array Value) (t:TypeId) (fr:Nat×Nat),Q g->w.heap[g]?=some (.cells cs t fr)->w2.heap[g]?=w.heap[g]?) (h:KidsT Q w p kids):KidsT Q w2 p kids:=by
 induction h with
 | mk p kids hn b o hp q c hk ht ih =>
  refine .mk p kids hn b o hp q c (fun i hi=>⟨(hk i hi).1,(hk i hi).2.1,?_⟩) ih;obtain⟨_,hB,hc⟩:=hk i hi;have h0:=hc 0 _ rfl;unfold World.cell? at h0
  split at h0
  ·rename_i cs t fr hb;exact zQ (hs b cs t fr hB hb) hc
  ·cases h0
theorem KidsT.kept (h:KidsT Q w p kids) (hb:Bw w w2):KidsT Q w2 p kids:=h.by fun g cs t fr _ hc=>hb.block g (hlt hc)
theorem KidsT.weak (h:KidsT Q w p kids) (hb:∀ b,Q b->Q' b):KidsT Q' w p kids:=by
 induction h with
 | mk p kids hn b o hp q c hk ht ih=>exact .mk p kids hn b o hp q c (fun i hi=>⟨(hk i hi).1,hb _ (hk i hi).2.1,(hk i hi).2.2⟩) ih
theorem KidsT.there (h:KidsT Q w p kids):KidsT (fun b=>Q b/\b<w.heap.size) w p kids:=by
 induction h with
 | mk p kids hn b o hp q c hk ht ih =>
  refine .mk p kids hn b o hp q c (fun i hi=>⟨(hk i hi).1,⟨(hk i hi).2.1,?_⟩,(hk i hi).2.2⟩) ih;have h0:=(hk i hi).2.2 0 _ rfl;unfold World.cell? at h0
  split at h0
  ·rename_i hb;exact hlt hb
  ·cases h0
theorem KidsT.nil:KidsT Q w p [] := .mk p [] (by decide) 0 0 (.inl rfl) (fun _=>none) (fun _=>0) (fun i hi=>by simp at hi) (fun i hi=>by simp at hi)
end
def zft (f:Bs->Bool):Bs->Option Value:=fun t=>if f t then some (.bool true) else none
def zb9 (s:Bs) (l c:Nat) (st:PS):List Value:=[zu s,u8n st.tok.kind,zu st.tok.text,i64 (st.tok.at_:Nat),.map (some l),.map (some c),i64 (st.nodes:Nat),i64 (st.deep:Nat),i64 st.e]
structure ParB (g l c:Nat) (s:Bs) (st:PS) (w:Wd):Prop where
 f:w.heap[g]?=some (.cells (zb9 s l c st).toArray 136 (0,0))
 lm:MapF zbQ w l (zft st.lets)
 cm:MapF zbQ w c (zft st.checks)
 ord:3<l/\l<c/\c<g
 glob:GlobK w
 len:s.length<=8192
 pos:st.tok.at_+st.tok.text.length<=s.length
 nod:st.nodes<=400
 dep:st.deep<=50
theorem zah {κ:Type} [DecidableEq κ] {key:κ->Value} {w:Wd} {r:Nat} {f:κ->Option Value} (h:MapF key w r f):r<w.heap.size:=by
 obtain⟨_,_,h,_⟩:=h;exact hlt h
theorem zjS {T:TypeId} {v:Value} (h:(Tryz.prog.info? T).bind (fun i=>i.zero)=some v) (w:Wd):(zeroValue T).run PG w = .ok v w:=by
 cases hi:Tryz.prog.info? T with
 | none=>rw [hi] at h;cases h
 | some inf =>
  rw [hi] at h;have h:inf.zero=some v:=h;simp [zeroValue,typeInfo,hi,h]
section
variable {g l c:Nat} {s:Bs} {st st':PS} {w w2:Wd}
theorem ParB.lt (h:ParB g l c s st w):g<w.heap.size:=hlt h.f
theorem GlobK.grown (h:GlobK w) (hg:3<g) (hb:w.grownBy w2 (some g)):GlobK w2:=by
 have sm:∀ j,j<=3->w2.heap[j]?=w.heap[j]?:=fun j hj=>hb.block j (by have:=h.lt;omega) (by simp;omega);exact⟨zQ (sm _ (by decide)) h.op,zQ (sm _ (by decide)) h.st,zQ (sm _ (by decide)) h.sg,zQ (sm _ (by decide)) h.nd,nL h.lt hb.size⟩
theorem ParB.below (h:ParB g l c s st w) (hb:Bw w w2):ParB g l c s st w2 :=
 ⟨zb hb h.f,h.lm.below hb,h.cm.below hb,h.ord,h.glob.below hb,h.len,h.pos,h.nod,h.dep⟩
theorem ParB.put (h:ParB g l c s st w) (hb:w.grownBy w2 (some g)) (hf:w2.heap[g]?=some (.cells (zb9 s l c st').toArray 136 (0,0))) (e1:st'.lets=st.lets) (e2:st'.checks=st.checks)
  (hp:st'.tok.at_+st'.tok.text.length<=s.length) (hn:st'.nodes<=400) (hd:st'.deep<=50):ParB g l c s st' w2:=by
 have o:=h.ord;refine⟨hf,?_,?_,o,h.glob.grown (by omega) hb,h.len,hp,hn,hd⟩
 ·rw [e1];exact h.lm.same (hb.block l (zah h.lm) (by simp;omega))
 ·rw [e2];exact h.cm.same (hb.block c (zah h.cm) (by simp;omega))
theorem ParB.tok (h:ParB g l c s st w) {t:Tk} (ht:t.at_+t.text.length<=s.length) {K:Wd->Prop} (k:∀ Y,ParB g l c s { st with tok:=t } Y->w.grownBy Y (some g)->K Y) :
  SatR ((storeVar 134 ⟨g,1,none⟩ (.agg (qk t).toArray)).run PG w) fun _ w'=>K w' :=
 jk zus h.f (o:=1) (v := .agg (qk t).toArray) rfl (by show 1+3<=9;decide) rfl fun Y fY gY _=>k Y (h.put gY fY rfl rfl ht h.nod h.dep) gY
theorem ParB.nodes (h:ParB g l c s st w) {n:Nat} (hn:n<=400) {K:Wd->Prop} (k:∀ Y,ParB g l c s { st with nodes:=n } Y->w.grownBy Y (some g)->K Y) :
  SatR ((storeVar 3 ⟨g,6,none⟩ (i64 (n:Nat))).run PG w) fun _ w'=>K w' :=
 zy k3 h.f (o:=6) (v:=i64 (n:Nat)) rfl rfl (by show 6<9;decide) rfl fun Y fY gY _=>k Y (h.put gY fY rfl rfl h.pos hn h.dep) gY
theorem ParB.deep (h:ParB g l c s st w) {n:Nat} (hn:n<=50) {K:Wd->Prop} (k:∀ Y,ParB g l c s { st with deep:=n } Y->w.grownBy Y (some g)->K Y) :
  SatR ((storeVar 3 ⟨g,7,none⟩ (i64 (n:Nat))).run PG w) fun _ w'=>K w' :=
 zy k3 h.f (o:=7) (v:=i64 (n:Nat)) rfl rfl (by show 7<9;decide) rfl fun Y fY gY _=>k Y (h.put gY fY rfl rfl h.pos h.nod hn) gY
theorem ParB.err (h:ParB g l c s st w) {n:Int} {K:Wd->Prop} (k:∀ Y,ParB g l c s { st with e:=n } Y->w.grownBy Y (some g)->K Y) :
  SatR ((storeVar 42 ⟨g,8,none⟩ (i64 n)).run PG w) fun _ w'=>K w' :=
 zy k42 h.f (o:=8) (v:=i64 n) rfl rfl (by show 8<9;decide) rfl fun Y fY gY _=>k Y (h.put gY fY rfl rfl h.pos h.nod h.dep) gY
abbrev nx (s:Bs) (st:PS):PS:=zaM (zH s) st
theorem zbO (h:ParB g l c s st w):Calls PG 66 #[At0 g] w fun e w'=>e = .returned (j7 [])/\ParB g l c s (nx s st) w'/\w.grownBy w' (some g):=by
 refine zJ 22 [At0 g] Tryz.func66 ?_;refine DrawE.ord [20] [0,1,2,3,4,5,6,7,8,9,10,11,12,13,14,15,16,17,18,19,20] (by kernel_rfl) ?_;have h1:ParB g l c s st w.drew:=h.below (Gj _ w).drew;have hl:=h.len;have hp:=h.pos;refine⟨_,zc (za h1.f) (i:=0) rfl,_,zc (za h1.f) (i:=3) rfl,_,zc (za h1.f) (i:=2) rfl,((st.tok.at_+st.tok.text.length:Nat):Int),(zk (a:=(st.tok.at_:Int)+(st.tok.text.length:Int)) (by omega)).trans (by omega),cmo (zrK (s:=s) (a:=st.tok.at_+st.tok.text.length) h1.glob hp (by omega)) ?_⟩;rintro e X ⟨rfl,hbX⟩;refine⟨hbX,?_⟩;have hX:=h1.below hbX;exact hX.tok (zpB hp) fun Y hY gY=>⟨rfl,hY,zh (zi ((Gj _ w).drew.trans hbX)) gY⟩
theorem jM (h:ParB g l c s st w) (n:Int):Calls PG 107 #[At0 g,i64 n] w fun e w'=>e = .returned (.bool false)/\ParB g l c s (zaN n st) w'/\w.grownBy w' (some g):=by
 refine zJ 9 [At0 g,i64 n] Tryz.func107 ?_;exact h.err fun Y hY gY=>⟨rfl,hY,gY⟩
theorem zX {a b:Nat}:decide ((a:Int)=(b:Int))=decide (a=b):=by rw [QH];omega
theorem zsp (h:ParB g l c s st w) (t:Bs):Calls PG 206 #[At0 g,zu t] w fun e w'=>e = .returned (.bool (isP st t))/\w=w':=by
 refine zJ 20 [At0 g,zu t] Tryz.func206 ?_;unfold isP;refine⟨_,zc (za h.f) (i:=1) rfl,biE (fun h1=>?_) fun h1=>?_⟩
 ·have h1:decide (st.tok.kind=6)=true:=(zX (b:=6)).symm.trans h1;exact⟨_,zc (za h.f) (i:=2) rfl,_,fun w=>zF _ _ st.tok.text t w,rb (by rw [h1];rfl),rfl⟩
 ·have h1:decide (st.tok.kind=6)=false:=(zX (b:=6)).symm.trans h1;exact⟨rb (by rw [h1];rfl),rfl⟩
theorem zcY (h:ParB g l c s st w) (k:Nat) (t:Bs):Calls PG 110 #[At0 g,u8n k,zu t] w fun e w'=>e = .returned (.bool (qj (zH s) k t st).1)/\ParB g l c s (qj (zH s) k t st).2 w'/\w.grownBy w' (some g):=by
 refine zJ 27 [At0 g,u8n k,zu t] Tryz.func110 ?_;refine⟨_,zc (za h.f) (i:=1) rfl,?_⟩;have bad:(st.tok.kind≠k\/st.tok.text≠t)->Calls PG 107 #[At0 g,i64 110] w fun e w'=>e = .returned (.bool (qj (zH s) k t st).1)/\ParB g l c s (qj (zH s) k t st).2 w'/\w.grownBy w' (some g):=fun hb=>by
  have e:qj (zH s) k t st=(false,zaN 110 st):=by unfold qj;rw [Gz hb]
  rw [e];exact jM h 110
 refine biE (fun h1=>?_) fun h1=>?_
 ·have h1:(!decide ((st.tok.kind:Int)=(k:Int)))=true:=h1;rw [zX] at h1;refine brT (cmo (bad (.inl (by simpa using h1))) ?_);rintro e Y ⟨rfl,hY,gY⟩;exact⟨rfl,hY,gY⟩
 have h1:(!decide ((st.tok.kind:Int)=(k:Int)))=false:=h1;rw [zX] at h1;have h1:st.tok.kind=k:=by simpa using h1
 refine⟨_,zc (za h.f) (i:=2) rfl,_,fun w=>zfm _ _ st.tok.text t w,biE (fun h2=>?_) fun h2=>?_⟩
 ·have h2:(!decide (st.tok.text=t))=true:=h2;refine cmo (bad (.inr (by simpa using h2))) ?_;rintro e Y ⟨rfl,hY,gY⟩;exact⟨rfl,hY,gY⟩
 ·have h2:(!decide (st.tok.text=t))=false:=h2;have h2:st.tok.text=t:=by simpa using h2
  have e:qj (zH s) k t st=(true,nx s st):=by unfold qj;rw [Gy (by rintro (h | h);exact h h1;exact h h2)]
  rw [e];refine cmo (zbO h) ?_;rintro e Y ⟨rfl,hY,gY⟩;exact⟨rfl,hY,gY⟩
theorem zhl (h:ParB g l c s st w):Calls PG 164 #[At0 g] w fun e w'=>e = .returned (.bool (zaB (zH s) st).1)/\ParB g l c s (zaB (zH s) st).2 w'/\w.grownBy w' (some g):=by
 refine zJ 19 [At0 g] Tryz.func164 ?_;have hn:=h.nod;refine⟨_,zc (za h.f) (i:=6) rfl,biE (fun h1=>?_) fun h1=>?_⟩
 ·have h1:(400:Int)<=(st.nodes:Int):=dT h1;have e:zaB (zH s) st=(false,zaN 5 st):=by unfold zaB;rw [Gz (by omega)]
  rw [e];refine cmo (jM h 5) ?_;rintro e Y ⟨rfl,hY,gY⟩;exact⟨rfl,hY,gY⟩
 ·have h1:¬ (400:Int)<=(st.nodes:Int):=dF h1;have e:zaB (zH s) st=(true,nx s { st with nodes:=st.nodes+1 }):=by unfold zaB;rw [Gy (by omega)]
  rw [e];refine⟨_,zc (za h.f) (i:=6) rfl,((st.nodes+1:Nat):Int),(zk (by omega)).trans (by omega),h.nodes (n:=st.nodes+1) (by omega) fun Y hY gY=>cmo (zbO hY) ?_⟩;rintro e Z ⟨rfl,hZ,gZ⟩;exact⟨rfl,hZ,zh gY gZ⟩
theorem zdW {w:Wd} {r:Nat} {f:Bs->Bool} (h:MapF zbQ w r (zft f)) (t:Bs):(Instr.lookup 105 (.map (some r)) (zu t) false).run PG w = .ok (.bool (f t)) w:=by
 have:=zhs zj2 Tryz.underlying105 (z := .bool false) (zjS (by kernel_rfl)) h t false;refine this.trans ?_;unfold zft
 cases f t <;> rfl
end
theorem zjU {n:Nat} (h:n<=255):IntKind.u8.wrap (n:Int)=(n:Int):=by
 unfold IntKind.wrap;simp only [IntKind.bits,IntKind.signed,Ul,Kt,Gt];omega
section
variable {g l c pb:Nat} {s:Bs} {st:PS} {w:Wd}
theorem zrw (h:ParB g l c s st w) (hp:w.heap[pb]?=some (.cells #[At0 g] 132 (0,0))) (t:Bs):Calls PG 109 #[zu t,At0 pb] w fun e w'=>e = .returned (.bool (zal t||st.lets t))/\w=w':=by
 refine zJ 14 [zu t,At0 pb] Tryz.func109 ?_;refine cmo (zgS t w) ?_;rintro e _ ⟨rfl,rfl⟩;refine biE (fun h1=>?_) fun h1=>?_
 ·have h1:zal t=true:=h1;exact⟨rb (by rw [h1];rfl),rfl⟩
 ·have h1:zal t=false:=h1;rw [h1];exact⟨_,zc (za hp) (i:=0) rfl,_,zc (za h.f) (i:=4) rfl,_,fun w2 hb=>zdW (h.lm.below hb) t,rfl,rfl⟩
theorem zrv (h:ParB g l c s st w) (hp:w.heap[pb]?=some (.cells #[At0 g] 132 (0,0))) (t:Bs):Calls PG 112 #[zu t,At0 pb] w fun e w'=>e = .returned (.bool (st.checks t))/\w=w':=by
 refine zJ 10 [zu t,At0 pb] Tryz.func112 ?_;exact⟨_,zc (za hp) (i:=0) rfl,_,zc (za h.f) (i:=5) rfl,_,fun w2 hb=>zdW (h.cm.below hb) t,rfl,rfl⟩
theorem zl9 (h:ParB g l c s st w) (hp:w.heap[pb]?=some (.cells #[At0 g] 132 (0,0))):Calls PG 108 #[At0 g,.func (.func 109) #[] #[At0 pb]] w fun e w'=>e = .returned (.tuple #[zu ((jT (zH s) (fun t=>zal t||st.lets t) st).1.getD []),.bool (jT (zH s) (fun t=>zal t||st.lets t) st).1.isSome])/\ParB g l c s (jT (zH s) (fun t=>zal t||st.lets t) st).2 w'/\w.grownBy w' (some g):=by
 refine zJ 28 [At0 g,.func (.func 109) #[] #[At0 pb]] Tryz.func108 ?_;refine⟨_,zc (za h.f) (i:=2) rfl,_,zc (za h.f) (i:=1) rfl,biE (fun h1=>?_) fun h1=>?_⟩
 ·have h1:(!decide ((st.tok.kind:Int)=((4:Nat):Int)))=true:=h1;rw [zX] at h1;have h1:st.tok.kind≠4:=by simpa using h1
  have e:jT (zH s) (fun t=>zal t||st.lets t) st=(none,zaN 110 st):=by unfold jT;rw [Gz h1]
  rw [e];refine cmo (jM h 110) ?_;rintro e Y ⟨rfl,hY,gY⟩;exact⟨rfl,hY,gY⟩
 have h1:(!decide ((st.tok.kind:Int)=((4:Nat):Int)))=false:=h1;rw [zX] at h1;have h1:st.tok.kind=4:=by simpa using h1
 refine cmo (zrw h hp st.tok.text) ?_;rintro e _ ⟨rfl,rfl⟩;refine biE (fun h2=>?_) fun h2=>?_
 ·have h2:((fun t=>zal t||st.lets t) st.tok.text)=true:=h2;have e:jT (zH s) (fun t=>zal t||st.lets t) st=(none,zaN 111 st):=by unfold jT;rw [Gy (by rw [h1];decide),Gz h2]
  rw [e];refine cmo (jM h 111) ?_;rintro e Y ⟨rfl,hY,gY⟩;exact⟨rfl,hY,gY⟩
 ·have h2:((fun t=>zal t||st.lets t) st.tok.text)=false:=h2;have e:jT (zH s) (fun t=>zal t||st.lets t) st=(some st.tok.text,nx s st):=by unfold jT;rw [Gy (by rw [h1];decide),Gy (by rw [h2];exact Ku)]
  rw [e];refine cmo (zbO h) ?_;rintro e Y ⟨rfl,hY,gY⟩;exact⟨rfl,hY,gY⟩
theorem zl8 (h:ParB g l c s st w) (hp:w.heap[pb]?=some (.cells #[At0 g] 132 (0,0))):Calls PG 108 #[At0 g,.func (.func 112) #[] #[At0 pb]] w fun e w'=>e = .returned (.tuple #[zu ((jT (zH s) st.checks st).1.getD []),.bool (jT (zH s) st.checks st).1.isSome])/\ParB g l c s (jT (zH s) st.checks st).2 w'/\w.grownBy w' (some g):=by
 refine zJ 28 [At0 g,.func (.func 112) #[] #[At0 pb]] Tryz.func108 ?_;refine⟨_,zc (za h.f) (i:=2) rfl,_,zc (za h.f) (i:=1) rfl,biE (fun h1=>?_) fun h1=>?_⟩
 ·have h1:(!decide ((st.tok.kind:Int)=((4:Nat):Int)))=true:=h1;rw [zX] at h1;have h1:st.tok.kind≠4:=by simpa using h1
  have e:jT (zH s) st.checks st=(none,zaN 110 st):=by unfold jT;rw [Gz h1]
  rw [e];refine cmo (jM h 110) ?_;rintro e Y ⟨rfl,hY,gY⟩;exact⟨rfl,hY,gY⟩
 have h1:(!decide ((st.tok.kind:Int)=((4:Nat):Int)))=false:=h1;rw [zX] at h1;have h1:st.tok.kind=4:=by simpa using h1
 refine cmo (zrv h hp st.tok.text) ?_;rintro e _ ⟨rfl,rfl⟩;refine biE (fun h2=>?_) fun h2=>?_
 ·have h2:(st.checks st.tok.text)=true:=h2;have e:jT (zH s) st.checks st=(none,zaN 111 st):=by unfold jT;rw [Gy (by rw [h1];decide),Gz h2]
  rw [e];refine cmo (jM h 111) ?_;rintro e Y ⟨rfl,hY,gY⟩;exact⟨rfl,hY,gY⟩
 ·have h2:(st.checks st.tok.text)=false:=h2;have e:jT (zH s) st.checks st=(some st.tok.text,nx s st):=by unfold jT;rw [Gy (by rw [h1];decide),Gy (by rw [h2];exact Ku)]
  rw [e];refine cmo (zbO h) ?_;rintro e Y ⟨rfl,hY,gY⟩;exact⟨rfl,hY,gY⟩
theorem zbt (hg:GlobK w) {k:Nat} (hk:k<10):w.cell? ⟨1,0+k,none⟩=some (i64 (zb0.getD k 0:Nat)):=by
 refine zc hg.st ?_;have hk:k<zb0.length:=hk;rw [KU,gE hk,gDe,gE hk];rfl
theorem zgK (hg:GlobK w) {k:Nat} (hk:k<10):w.cell? ⟨2,0+k,none⟩=some (zu (jY.getD k [])):=by
 refine zc hg.sg ?_;have hk:k<jY.length:=hk;rw [KU,gE hk,gDe,gE hk];rfl
def zxm (st:PS) (k:Nat):Prop:=(2<k->isP st [124]=false)/\(3<k->isP st [38]=false)/\(4<k->isP st [92]=false)/\(5<k->isP st [59]=false)
theorem zl3 (h:ParB g l c s st w):Calls PG 163 #[At0 g] w fun e w'=>e = .returned (u8n (qt st))/\w=w':=by
 refine zJ 22 [At0 g] Tryz.func163 ?_;have hg:=h.glob;have hlt:=hg.lt;refine⟨zb0.map (fun n=>i64 (n:Nat)),rfl,hg.st,nL (by decide) (Nat.succ_le_of_lt hg.lt),?_⟩;refine⟨Nat,fun k=>⟨[(0,At0 g),(5,.agg (zb0.map (fun n=>i64 (n:Nat))).toArray),(6,.int .i64 (k:Nat))],[]⟩,fun k V=>k<=10/\zxm st k/\w=V,fun k=>10-k,0,
  (cvE rfl rfl),⟨Gg _,⟨fun h=>GA h (by decide),fun h=>GA h (by decide),fun h=>GA h (by decide),fun h=>GA h (by decide)⟩,rfl⟩,?_⟩
 rintro k _ ⟨hk,hno,rfl⟩;refine biE (fun h1=>?_) fun h1=>?_
 ·have h1:(k:Int)<10:=dT h1;have hkl:k<zb0.length:=by show k<10;omega
  refine⟨k,rfl,by omega,?_⟩;have hget:(zb0.map fun n=>i64 (n:Nat))[k*1]?=some (i64 (zb0.getD k 0:Nat)):=by
   rw [Gf,KU,gE hkl,gDe,gE hkl];rfl
  refine zbv hget (biE (fun h2=>?_) fun h2=>?_)
  ·have h2:(0:Int)<((zb0.getD k 0:Nat):Int):=dT h2;refine⟨k,rfl,by omega,?_⟩;refine⟨_,by rw [Gf];exact zgK hg (by omega),cmo (zsp h (jY.getD k [])) ?_⟩;rintro e _ ⟨rfl,rfl⟩;obtain⟨n2,n3,n4,n5⟩:=hno;have cases5:k=2\/k=3\/k=4\/k=5:=by
    have:∀ j:Fin 10,0<zb0.getD j.1 0->j.1=2\/j.1=3\/j.1=4\/j.1=5:=(by decide);exact this ⟨k,by omega⟩ (by show 0<zb0.getD k 0;omega)
   refine biE (fun h3=>?_) fun h3=>?_
   ·have h3:isP st (jY.getD k [])=true:=h3;refine⟨(k:Int),zjU (by omega),?_,rfl⟩;have e:qt st=k:=by
     unfold qt;rcases cases5 with rfl | rfl | rfl | rfl
     ·rw [Gz (show isP st [124]=true from h3)]
     ·rw [Gy (by rw [n2 (by decide)];decide),Gz (show isP st [38]=true from h3)]
     ·rw [Gy (by rw [n2 (by decide)];decide),Gy (by rw [n3 (by decide)];decide),Gz (show isP st [92]=true from h3)]
     ·rw [Gy (by rw [n2 (by decide)];decide),Gy (by rw [n3 (by decide)];decide),Gy (by rw [n4 (by decide)];decide),Gz (show isP st [59]=true from h3)]
    rw [e];rfl
   ·have h3:isP st (jY.getD k [])=false:=h3;refine nxI (by omega) ⟨k+1,(cvE rfl rfl),⟨by omega,?_,rfl⟩,by dsimp only;omega⟩;refine⟨fun h=>?_,fun h=>?_,fun h=>?_,fun h=>?_⟩
    ·rcases cases5 with rfl | rfl | rfl | rfl
     ·exact h3
     all_goals exact n2 (by decide)
    ·rcases cases5 with rfl | rfl | rfl | rfl
     ·exact GA h (by decide)
     ·exact h3
     all_goals exact n3 (by decide)
    ·rcases cases5 with rfl | rfl | rfl | rfl
     ·exact GA h (by decide)
     ·exact GA h (by decide)
     ·exact h3
     ·exact n4 (by decide)
    ·rcases cases5 with rfl | rfl | rfl | rfl
     ·exact GA h (by decide)
     ·exact GA h (by decide)
     ·exact GA h (by decide)
     ·exact h3
  ·have h2:¬ (0:Int)<((zb0.getD k 0:Nat):Int):=dF h2;refine brF (nxI (by omega) ⟨k+1,(cvE rfl rfl),⟨by omega,?_,rfl⟩,by dsimp only;omega⟩);have no5:k≠2/\k≠3/\k≠4/\k≠5:=by
    have:∀ j:Fin 10,¬ 0<zb0.getD j.1 0->j.1≠2/\j.1≠3/\j.1≠4/\j.1≠5:=(by decide);exact this ⟨k,by omega⟩ (by show ¬ 0<zb0.getD k 0;omega)
   obtain⟨n2,n3,n4,n5⟩:=hno;exact⟨fun h=>n2 (by omega),fun h=>n3 (by omega),fun h=>n4 (by omega),fun h=>n5 (by omega)⟩
 ·have h1:¬ (k:Int)<10:=dF h1;obtain⟨n2,n3,n4,n5⟩:=hno;refine⟨?_,rfl⟩;have e:qt st=0:=by
   unfold qt;rw [Gy (by rw [n2 (by omega)];decide),Gy (by rw [n3 (by omega)];decide),Gy (by rw [n4 (by omega)];decide),Gy (by rw [n5 (by omega)];decide)]
  rw [e];rfl
end
end Go.Proofs.YtnadlhpkpnfmbaaGreatDoor
namespace Go.Proofs.YtnadlhpkpnfmbaaGreatDoor
open Go.Vc
def GdT (k:Nat) (t:Tk):Prop:=t.at_<=k/\t.kind≠1/\(t.kind≠0->t.at_+t.text.length<=k)
def Sm {α:Type} (m:Nat) (st:PS) (r r':α×PS):Prop:=st.tok.at_<=r.2.tok.at_/\(r.2.tok.at_<=m->r'=r)
section
variable {sc sc':Nat->Tk} {m:Nat}
theorem Sm.same {α:Type} {st:PS} {r:α×PS} (h:r.2.tok=st.tok):Sm m st r r:=⟨by rw [h];exact Ge _,fun _=>rfl⟩
theorem Sm.eq {α:Type} {st st1:PS} {a:α} {r r':α×PS} (h:Sm m st r r') (e:r=(a,st1)):st.tok.at_<=st1.tok.at_/\(st1.tok.at_<=m->r'=(a,st1)):=by
 subst e;exact h
variable (Mo:∀ a,a<=(sc a).at_) (Sa:∀ a,(sc a).at_<=m->sc' a=sc a)
include Mo Sa
end
section
variable {p:UInt8->Bool}
theorem zlP (s:Bs) (a:Nat):a<=jm p s a:=Qy _ _
end
theorem zrG (s:Bs) (a:Nat):a<=zcm s a:=by
 unfold zcm
 split
 ·exact UU (zlP (p:=jv) s a) (zlP s _)
 ·exact zlP s a
theorem zpv (k:Nat) (t:Bs) (a:Nat):(zaF k t a).at_=a:=by unfold zaF;split <;> rfl
theorem ztT (s:Bs) (a:Nat):(zaX s a).at_=a:=by
 unfold zaX
 split
 ·rfl
 ·repeat' split
  all_goals first | rfl | exact zpv _ _ _
theorem zn4 (s:Bs) (a:Nat):a<=(zH s a).at_:=by
 unfold zH;rw [ztT];exact zrG s a
def wordB (c:UInt8):Bool:=zbk c||jW c||(decide (48<=c.toNat)&&decide (c.toNat<=57))||decide (c=45)||decide (c=94)
section
variable {s:Bs}
def MoS (s:Bs) (a b:PS):Prop:=a.tok.at_<=b.tok.at_/\b.deep=a.deep/\(b.tok=a.tok\/∃ i,b.tok=zH s i)
theorem MoS.refl (a:PS):MoS s a a:=⟨Ge _,rfl,.inl rfl⟩
theorem MoS.trans {a b c:PS} (h:MoS s a b) (k:MoS s b c):MoS s a c:=⟨UU h.1 k.1,k.2.1.trans h.2.1,by
 rcases k.2.2 with e | e
 ·rw [e];exact h.2.2
 ·exact .inr e⟩
theorem zkv (s:Bs) (st:PS):st.tok.at_+st.tok.text.length<=(zaM (zH s) st).tok.at_:=zn4 s _
theorem zek (st:PS):MoS s st (zaM (zH s) st):=⟨UU (Qy _ _) (zkv s st),rfl,.inr ⟨_,rfl⟩⟩
theorem zgP (st:PS):MoS s st (zaB (zH s) st).2:=by
 unfold zaB
 split
 ·exact .refl _
 ·exact zek { st with nodes:=st.nodes+1 }
theorem zbV (k:Nat) (t:Bs) (st:PS):MoS s st (qj (zH s) k t st).2:=by
 unfold qj
 split
 ·exact .refl _
 ·exact zek st
theorem zbP:∀ f,(∀ least st,MoS s st (termP (zH s) f least st).2)/\(∀ least t st,MoS s st (moreP (zH s) f least t st).2) /\
  (∀ st,MoS s st (tightP (zH s) f st).2)/\(∀ t st,MoS s st (postsP (zH s) f t st).2)/\(∀ st,MoS s st (simpleP (zH s) f st).2)
 | 0=>by
  refine⟨?_,?_,?_,?_,?_⟩ <;> intros <;> simp only [termP,moreP,tightP,postsP,simpleP] <;> exact .refl _
 | f+1=>by
  obtain⟨h1,h2,h3,h4,h5⟩:=zbP f;refine⟨fun least st=>?_,fun least t st=>?_,fun st=>?_,fun t st=>?_,fun st=>?_⟩
  ·rw [termP];have:=h3 st
   split <;> rename_i e <;> rw [e] at this
   ·exact this
   ·exact this.trans (h2 _ _ _)
  ·rw [moreP]
   split
   ·exact .refl _
   ·have hn:=zgP (s:=s) st
    split <;> rename_i e <;> rw [e] at hn
    ·exact hn
    ·have:=h1 (qt st) ‹PS›
     split <;> rename_i e2 <;> rw [e2] at this
     ·exact hn.trans this
     ·exact hn.trans (this.trans (h2 _ _ _))
  ·rw [tightP];have:=h5 st
   split <;> rename_i e <;> rw [e] at this
   ·exact this
   ·exact this.trans (h4 _ _)
  ·rw [postsP]
   split
   ·exact .refl _
   ·have hn:=zgP (s:=s) st
    split <;> rename_i e <;> rw [e] at hn
    ·exact hn
    ·exact hn.trans (h4 _ _)
  ·rw [simpleP]
   split
   ·split
    ·exact .refl _
    ·have hn:=zgP (s:=s) st
     split <;> rename_i e <;> rw [e] at hn <;> exact hn
   ·split
    ·have hn:=zgP (s:=s) st
     split <;> rename_i e <;> rw [e] at hn
     ·exact hn
     ·split
      ·exact hn
      ·split
       ·exact hn
       ·rename_i st2 _ _;have hx:=zbV (s:=s) 6 [93] (zaM (zH s) st2);have hm:=hn.trans (zek (s:=s) st2)
        split <;> rename_i e2 <;> rw [e2] at hx <;> exact hm.trans hx
    ·split
     ·have ha:=zek (s:=s) { st with deep:=st.deep+1 };have hn:=h1 1 (zaM (zH s) { st with deep:=st.deep+1 })
      split <;> rename_i st2 e <;> rw [e] at hn
      ·exact⟨UU ha.1 hn.1,by show st2.deep-1=st.deep;have e1:st2.deep=st.deep+1:=hn.2.1.trans ha.2.1;omega,(ha.trans hn).2.2⟩
      ·have hx:=zbV (s:=s) 6 [41] { st2 with deep:=st2.deep-1 };have hm:MoS s st { st2 with deep:=st2.deep-1 }:=⟨UU ha.1 hn.1,by show st2.deep-1=st.deep;have e1:st2.deep=st.deep+1:=hn.2.1.trans ha.2.1;omega,(ha.trans hn).2.2⟩
       split <;> rename_i e2 <;> rw [e2] at hx <;> exact hm.trans hx
     ·exact .refl _
theorem zgQ (used:Bs->Bool) (st:PS):MoS s st (jT (zH s) used st).2:=by
 unfold jT
 split
 ·exact .refl _
 ·split
  ·exact .refl _
  ·exact zek st
theorem zjq (l:LineD) (st:PS):MoS s st (zoJ l st).2:=by
 unfold zoJ
 split <;> exact .refl _
theorem zjp {a b:PS} (h:MoS s a b) {f:Bs->Bool}:MoS s a { b with lets:=f }:=h
theorem zf2 {a b:PS} (h:MoS s a b) {f:Bs->Bool}:MoS s a { b with checks:=f }:=h
theorem zsa (f many:Nat) (st:PS):MoS s st (zca (zH s) f many st).2:=by
 unfold zca
 split
 ·exact .refl _
 ·split
  ·exact .refl _
  ·have h0:=zek (s:=s) st
   split
   ·have h1:=zgQ (s:=s) (fun t=>zal t||st.lets t) (zaM (zH s) st)
    split <;> rename_i e <;> rw [e] at h1
    ·exact h0.trans h1
    ·rename_i nq st2;have h2:=zbV (s:=s) 6 [61] st2;have h01:=h0.trans h1
     split <;> rename_i e2 <;> rw [e2] at h2
     ·exact h01.trans h2
     ·rename_i st3;have h3:=(zbP (s:=s) f).1 1 st3;have h02:=h01.trans h2
      split <;> rename_i e3 <;> rw [e3] at h3
      ·exact zjp (h02.trans h3)
      ·exact (zjp (h02.trans h3)).trans (zjq _ _)
   ·have h1:=(zbP (s:=s) f).1 1 (zaM (zH s) st)
    split <;> rename_i e <;> rw [e] at h1
    ·exact h0.trans h1
    ·rename_i t st2;have h2:=zbV (s:=s) 3 [97,115] st2;have h01:=h0.trans h1
     split <;> rename_i e2 <;> rw [e2] at h2
     ·exact h01.trans h2
     ·rename_i st3;have h3:=zgQ (s:=s) st3.checks st3;have h02:=h01.trans h2
      split <;> rename_i e3 <;> rw [e3] at h3
      ·exact zf2 (h02.trans h3)
      ·exact (zf2 (h02.trans h3)).trans (zjq _ _)
theorem zsg {f many:Nat} {st st2:PS} {x:LineD} (h:zca (zH s) f many st=(some x,st2)):st.tok.at_+1<=st2.tok.at_:=by
 have ht:1<=st.tok.text.length:=by
  unfold zca at h
  split at h
  ·cases h
  ·rename_i hc;have hl:zbK st.tok.text<4:=by
    refine Jn fun hn=>hc (.inr ?_);omega
   cases ht:st.tok.text with
   | nil=>rw [ht] at hl;exact GA hl (by decide)
   | cons a r=>simp
 have hn:=zkv s st;have key:(zaM (zH s) st).tok.at_<=st2.tok.at_:=by
  have e2:st2=(zca (zH s) f many st).2:=by rw [h]
  rw [e2];unfold zca at h ⊢
  split at h
  ·cases h
  ·rename_i hc;rw [Gy hc]
   split at h
   ·cases h
   ·rename_i hc2;rw [Gy hc2]
    split at h
    ·rename_i hc3;rw [Gz hc3];have h1:=zgQ (s:=s) (fun t=>zal t||st.lets t) (zaM (zH s) st)
     split <;> rename_i e <;> rw [e] at h1
     ·exact h1.1
     ·rename_i nq st2;have h2:=zbV (s:=s) 6 [61] st2
      split <;> rename_i e2 <;> rw [e2] at h2
      ·exact (h1.trans h2).1
      ·rename_i st3;have h3:=(zbP (s:=s) f).1 1 st3
       split <;> rename_i e3 <;> rw [e3] at h3
       ·exact (h1.trans (h2.trans h3)).1
       ·exact ((zjp (h1.trans (h2.trans h3))).trans (zjq _ _)).1
    ·rename_i hc3;rw [Gy hc3];have h1:=(zbP (s:=s) f).1 1 (zaM (zH s) st)
     split <;> rename_i e <;> rw [e] at h1
     ·exact h1.1
     ·rename_i t st2;have h2:=zbV (s:=s) 3 [97,115] st2
      split <;> rename_i e2 <;> rw [e2] at h2
      ·exact (h1.trans h2).1
      ·rename_i st3;have h3:=zgQ (s:=s) st3.checks st3
       split <;> rename_i e3 <;> rw [e3] at h3
       ·exact (h1.trans (h2.trans h3)).1
       ·exact ((zf2 (h1.trans (h2.trans h3))).trans (zjq _ _)).1
 omega
theorem zox {sc:Nat->Tk} {f many:Nat} {st st2:PS} {x:LineD} (h:zca sc f many st=(some x,st2)):many<40:=by
 unfold zca at h
 split at h
 ·cases h
 ·split at h
  ·cases h
  ·omega
theorem zn5 {i:Nat} (h:(zH s i).kind=2):1<=(zH s i).text.length:=by
 unfold zH at h ⊢;unfold zaX at h ⊢;have sh:∀ {k:Nat} {t:Bs} {a:Nat},k≠2->(zaF k t a).kind≠2:=fun {k t a} hk=>by
  unfold zaF;split
  ·exact fun h=>GA h (by show (0:Nat)≠2;decide)
  ·exact hk
 split at h
 ·exact GA h (by show (1:Nat)≠2;decide)
 ·rename_i c hc
  split at h
  ·rename_i h10;rw [Gz h10];exact Ge _
  ·split at h
   ·split at h
    ·exact GA h (by show (3:Nat)≠2;decide)
    ·exact GA h (sh (by decide))
   ·split at h
    ·exact GA h (sh (by decide))
    ·split at h
     ·exact GA h (by show (6:Nat)≠2;decide)
     ·split at h
      ·exact GA h (by show (6:Nat)≠2;decide)
      ·exact GA h (by show (0:Nat)≠2;decide)
end
end Go.Proofs.YtnadlhpkpnfmbaaGreatDoor
namespace Go.Proofs.YtnadlhpkpnfmbaaGreatDoor
open Go.Vc Go.RowKit Go.Sei
def zlv (g l c:Nat) (s:Bs) (w:Wd) (r:Option Trm×PS) (e:Ending) (w':Wd):Prop :=
 ∃ (t:Trm) (q:OA) (cap:Nat),e = .returned (.tuple #[.agg (zf t q cap).toArray,.bool r.1.isSome]) /\
  (∀ x,r.1=some x->x=t/\t.name.length<=8192/\KidsT (fun b=>w.heap.size<=b) w' q t.kids)/\ParB g l c s r.2 w'/\w.grownBy w' (some g)
def zT:Trm := .mk 0 [] []
def zlx (g l c:Nat) (s:Bs) (f:Nat):Prop:=∀ (least:Nat) (st:PS) (w:Wd),least<=5->ParB g l c s st w->4*(s.length-st.tok.at_)+3<=f ->
 Calls PG 111 #[At0 g,i64 (least:Nat)] w (zlv g l c s w (termP (zH s) f least st))
section
variable {g l c:Nat} {s:Bs} {st:PS} {w w2 X:Wd}
theorem ParB.upto (h:ParB g l c s st w) (hb:Below (g+1) w w2):ParB g l c s st w2:=by
 have o:=h.ord;have sm:∀ {j},j<=g->w2.heap[j]?=w.heap[j]?:=fun {j} hj=>hb.block j (by omega);have hg:=h.glob;refine⟨(sm (Ge _)).trans h.f,h.lm.same (sm (by omega)),h.cm.same (sm (by omega)),o,⟨zQ (sm ?_) hg.op,zQ (sm ?_) hg.st,zQ (sm ?_) hg.sg,zQ (sm ?_) hg.nd,nL hg.lt hb.size⟩,h.len,h.pos,h.nod,h.dep⟩
 all_goals exact UU (by decide) (by omega:3<=g)
theorem zkW {Y:Wd} (h:w.grownBy X (some g)) (hb:Below w.heap.size X Y):w.grownBy Y (some g) :=
 ⟨hb.os.trans h.os,hb.tape.trans h.tape,hb.output.trans h.output,UU h.size hb.size,fun j hj hn=>(hb.block j hj).trans (h.block j hj hn)⟩
theorem zbR {t:Bs} (h:isP st t=true):st.tok.text.length=t.length:=by
 unfold isP at h;rw [bAT] at h;rw [dT h.2]
theorem zfQ {r:Nat} {t:Trm} {q:OA} {cap:Nat} {cs:Array Value} (hr:w.heap.size<=r) (f:X.heap[r]?=some (.cells cs 24 (0,0))) (h3:cs.size=3) (hX:ParB g l c s st X) (gX:w.grownBy X (some g)) (hg:g<w.heap.size) {K:Wd->Prop}
  (k:∀ Y,ParB g l c s st Y->w.grownBy Y (some g)->Y.heap[r]?=some (.cells (zf t q cap).toArray 24 (0,0))->(∀ j,j≠r->Y.heap[j]?=X.heap[j]?)->Y.heap.size=X.heap.size->K Y) :
  SatR ((storeVar 24 ⟨r,0,none⟩ (.agg (zf t q cap).toArray)).run PG X) fun _ w'=>K w':=by
 exact zr (v := .agg (zf t q cap).toArray) k24 f rfl h3 rfl (k _ (hX.upto (zj (Gj _ X) (by omega) _)) (zkW gX (zj (Gj _ X) hr _)) (zm f) (fun j hj=>zo hj) (by simp))
structure SimB (w:Wd) (g l c:Nat) (s:Bs) (st:PS) (tb:Nat) (t:Trm) (q:OA) (cap:Nat) (Y:Wd):Prop where
 p:ParB g l c s st Y
 r:Y.heap[w.heap.size]?=some (.cells (zf zT none 0).toArray 24 (0,0))
 x:Y.heap[tb]?=some (.cells (zf t q cap).toArray 24 (0,0))
 o:w.grownBy Y (some g)
 lt:w.heap.size<tb
 g:g<w.heap.size
structure AnsB (w:Wd) (g l c:Nat) (s:Bs) (st:PS) (Y:Wd):Prop where
 p:ParB g l c s st Y
 r:Y.heap[w.heap.size]?=some (.cells (zf zT none 0).toArray 24 (0,0))
 o:w.grownBy Y (some g)
 g:g<w.heap.size
section
variable {tb:Nat} {t:Trm} {q:OA} {cap:Nat} {Y Z:Wd} {st':PS}
theorem SimB.ans (h:SimB w g l c s st tb t q cap Y):AnsB w g l c s st Y:=⟨h.p,h.r,h.o,h.g⟩
theorem AnsB.grown (h:AnsB w g l c s st Y) (hZ:ParB g l c s st' Z) (gZ:Y.grownBy Z (some g)):AnsB w g l c s st' Z :=
 ⟨hZ,(gZ.block _ (hlt h.r) (by have:=h.g;simp;omega)).trans h.r,zh h.o gZ,h.g⟩
theorem SimB.grown (h:SimB w g l c s st tb t q cap Y) (hZ:ParB g l c s st' Z) (gZ:Y.grownBy Z (some g)):SimB w g l c s st' tb t q cap Z :=
 ⟨hZ,(gZ.block _ (hlt h.r) (by have:=h.g;simp;omega)).trans h.r,(gZ.block _ (hlt h.x) (by have:=h.g;have:=h.lt;simp;omega)).trans h.x,zh h.o gZ,h.lt,h.g⟩
theorem SimB.drew (h:SimB w g l c s st tb t q cap Y):SimB w g l c s st tb t q cap Y.drew :=
 h.grown (h.p.below (Gj _ Y).drew) (zi (Gj _ Y).drew)
theorem AnsB.box (h:AnsB w g l c s st Y) {cs:Array Value} (h3:cs.size=3) {K:Wd->Prop} (k:∀ Z,SimB w g l c s st Y.heap.size t q cap Z->Bw Y Z->Z.heap.size=Y.heap.size+1->K Z) :
  SatR ((storeVar 24 ⟨Y.heap.size,0,none⟩ (.agg (zf t q cap).toArray)).run PG (Y.alloc (.cells cs 24))) fun _ w'=>K w' :=
 zn (X:=Y) (v := .agg (zf t q cap).toArray) k24 rfl h3 rfl fun Z hbZ fZ sZ =>
  k Z ⟨h.p.below hbZ,zb hbZ h.r,fZ,zh h.o (zi hbZ),hlt h.r,h.g⟩ hbZ sZ
theorem AnsB.fin (h:AnsB w g l c s st Y) {R:Option Trm×PS} {ok:Bool} (e1:R.1.isSome=ok) (e2:R.2=st) (e3:∀ x,R.1=some x->x=t/\t.name.length<=8192/\KidsT (fun b=>w.heap.size<b) Y q t.kids) :
  SatR ((storeVar 24 ⟨w.heap.size,0,none⟩ (.agg (zf t q cap).toArray)).run PG Y) fun _ w'=>∃ us:List Value,us.length=3/\zw w' ⟨w.heap.size,0,none⟩ us/\zlv g l c s w R (.returned (j7 [.agg us.toArray,.bool ok])) w':=by
 refine zfQ (t:=t) (q:=q) (cap:=cap) (Ge _) h.r rfl h.p h.o h.g fun Z hZ gZ fZ oZ _=>⟨zf t q cap,rfl,za fZ,t,q,cap,by rw [e1];rfl,fun x hx=>?_,by rw [e2];exact hZ,gZ⟩;obtain⟨h1,h2,h3⟩:=e3 x hx;exact⟨h1,h2,(h3.by fun b cs ty fr hb hc=>oZ b (by omega)).weak fun b hb=>by omega⟩
theorem AnsB.none (h:AnsB w g l c s st Y) {R:Option Trm×PS} (hR:R=(none,st)) :
  SatR ((storeVar 24 ⟨w.heap.size,0,none⟩ (.agg (zf t q cap).toArray)).run PG Y) fun _ w'=>∃ us:List Value,us.length=3/\zw w' ⟨w.heap.size,0,none⟩ us/\zlv g l c s w R (.returned (j7 [.agg us.toArray,.bool false])) w' :=
 h.fin (by rw [hR];rfl) (by rw [hR]) (fun x hx=>by rw [hR] at hx;cases hx)
theorem AnsB.leaf {b:Bool} (h:AnsB w g l c s st Y) {R:Option Trm×PS} (hR:R=(if b=true then some t else Option.none,st)) (hk:t.kids=[]) (hn:t.name.length<=8192) :
  SatR ((storeVar 24 ⟨w.heap.size,0,Option.none⟩ (.agg (zf t q cap).toArray)).run PG Y) fun _ w'=>∃ us:List Value,us.length=3/\zw w' ⟨w.heap.size,0,Option.none⟩ us/\zlv g l c s w R (.returned (j7 [.agg us.toArray,.bool b])) w':=by
 refine h.fin (by rw [hR];cases b <;> rfl) (by rw [hR]) fun x hx=>?_;rw [hR] at hx
 cases b with
 | false=>cases hx
 | true=>exact⟨(Ug hx).symm,hn,by rw [hk];exact .nil⟩
end
theorem zn1 {f:Nat} (hT:zlx g l c s f) (h:ParB g l c s st w) (hf:4*(s.length-st.tok.at_)<=f) :
  Calls PG 205 #[At0 g] w (zlv g l c s w (simpleP (zH s) (f+1) st)):=by
 refine qa 115 [At0 g] (.c .p (.s (.b (.s .p (.d (.c .p (.c .p .p)) (.s .p (.d (.c .p (.c .p (.c .p (.c .p (.c .p .p))))) (.c .p (.d (.s .p (.c .p (.c .p (.c .p .p)))) .p))))))) .p)) Tryz.func205 ?_;obtain⟨R,hR⟩:=nm (simpleP (zH s) (f+1) st);rw [<- hR];rw [simpleP] at hR;refine⟨Unit,fun _=>⟨[(0,At0 g),(2,At0 w.heap.size)],[]⟩,fun _ X=>AnsB w g l c s st X,⟨(),(cvE rfl rfl),h.below (zba _ _),zz w _,zi (zba _ _),h.lt⟩,?_⟩;have hlen:=h.len;have hpos:=h.pos;have hdep:=h.dep;rintro _ X hX;refine⟨_,zc (za hX.p.f) (i:=1) rfl,biE (fun h1=>?_) fun h1=>?_⟩
 ·
  have h1:st.tok.kind=4:=dT ((zX (b:=4)).symm.trans h1);rw [Gz h1] at hR;have tl:st.tok.text.length<=8192:=by omega
  refine⟨Nat,fun tb=>⟨[(0,At0 g),(2,At0 w.heap.size),(4,At0 tb)],[]⟩,fun tb Y=>SimB w g l c s st tb (.mk 1 st.tok.text []) none 0 Y,?_,?_⟩
  ·exact⟨_,zc (za hX.p.f) (i:=2) rfl,zf (.mk 1 st.tok.text []) none 0,rfl,hX.box rfl fun Y hY _ _=>⟨_,(cvE rfl rfl),hY⟩⟩
  clear hX X;rintro tb Y hY;refine⟨Unit,fun _=>⟨[(0,At0 g),(2,At0 w.heap.size),(4,At0 tb)],[]⟩,fun _ Y=>SimB w g l c s st tb (.mk 1 st.tok.text []) none 0 Y/\R=((if (zaB (zH s) st).1=true then some (.mk 1 st.tok.text []) else none),(zaB (zH s) st).2),?_,?_⟩
  ·refine DrawE.ord [] [0,1,2,3,4,5,6,7,8,9,10,11,12,13] (by kernel_rfl) ?_;have hD:=hY.drew;refine⟨_,zc (za hD.x) (i:=1) rfl,cmo (zgS st.tok.text _) ?_⟩;rintro e _ ⟨rfl,rfl⟩;refine⟨Gj _ _,?_⟩;have good:(!zal st.tok.text && !st.lets st.tok.text)=false->R=((if (zaB (zH s) st).1=true then some (.mk 1 st.tok.text []) else none),(zaB (zH s) st).2):=fun hn=>by
    rw [hR,hn,Gy Ku]
    cases zaB (zH s) st with
    | mk b st2=>cases b <;> rfl
   refine biE (fun h2=>?_) fun h2=>?_
   ·have h2:(!zal st.tok.text)=true:=h2;refine⟨_,zc (za hD.p.f) (i:=4) rfl,_,zc (za hD.x) (i:=1) rfl,_,fun w2 hb=>zdW (hD.p.lm.below hb) st.tok.text,biE (fun h3=>?_) fun h3=>?_⟩
    ·have h3:(!st.lets st.tok.text)=true:=h3;rw [h2,h3] at hR;rw [Gz (by rfl:(true&&true)=true)] at hR;have hE:=hD.drew;refine DrawE.treeQ [2,3] (.op 1 (.alt (.op 2 (.op 0 (.op 3 (.op 4 .nil)))) (.op 0 (.op 2 (.op 3 (.op 4 .nil)))))) (by kernel_rfl) (Gp ?_ ?_)
     ·refine cmo (jM hE.p 112) ?_;rintro e Z ⟨rfl,hZ,gZ⟩;have hE2:=hE.grown hZ gZ;exact⟨_,rfl,za hE2.x,hlt hE2.x,hE2.ans.none hR⟩
     ·refine⟨_,rfl,za hE.x,hlt hE.x,cmo (jM hE.p 112) ?_⟩;rintro e Z ⟨rfl,hZ,gZ⟩;exact (hE.grown hZ gZ).ans.none hR
    ·have h3:(!st.lets st.tok.text)=false:=h3;exact⟨(),(cvE rfl rfl),hD,good (by rw [h3,Uk])⟩
   ·have h2:(!zal st.tok.text)=false:=h2;exact brF ⟨(),(cvE rfl rfl),hD,good (by rw [h2,Ul])⟩
  clear hY hR Y;rintro _ Y ⟨hY,hR⟩;have hE:=hY.drew;refine DrawE.treeQ [2,3] (.op 1 (.alt (.op 2 (.op 0 (.op 3 (.op 4 .nil)))) (.op 0 (.op 2 (.op 3 (.op 4 .nil)))))) (by kernel_rfl) (Gp ?_ ?_)
  ·refine cmo (zhl hE.p) ?_;rintro e2 Z ⟨rfl,hZ,gZ⟩;have hE2:=hE.grown hZ gZ;exact⟨_,rfl,za hE2.x,hlt hE2.x,hE2.ans.leaf hR rfl tl⟩
  ·refine⟨_,rfl,za hE.x,hlt hE.x,cmo (zhl hE.p) ?_⟩;rintro e2 Z ⟨rfl,hZ,gZ⟩;exact (hE.grown hZ gZ).ans.leaf hR rfl tl
 have h1:st.tok.kind≠4:=dF ((zX (b:=4)).symm.trans h1);rw [Gy h1] at hR;refine cmo (zsp hX.p [91]) ?_;rintro e _ ⟨rfl,rfl⟩;refine biE (fun h2=>?_) fun h2=>?_
 ·
  have h2:isP st [91]=true:=h2;rw [Gz h2] at hR;rcases hnd:zaB (zH s) st with ⟨nb,st2⟩;rw [hnd] at hR;refine⟨Unit,fun _=>⟨[(0,At0 g),(2,At0 w.heap.size)],[]⟩,fun _ Y=>AnsB w g l c s st2 Y/\nb=true,?_,?_⟩
  ·refine cmo (zhl hX.p) ?_;rintro e Y ⟨rfl,hY,gY⟩;rw [hnd] at hY ⊢;dsimp only at hY;have hY2:=hX.grown hY gY;refine biE (fun h3=>?_) fun h3=>?_
   ·have h3:(!nb)=true:=h3;have h3:nb=false:=(by simpa using h3);subst h3;exact⟨zf zT none 0,rfl,hY2.none hR⟩
   ·have h3:(!nb)=false:=h3;exact⟨(),(cvE rfl rfl),hY2,by simpa using h3⟩
  clear hX X;rintro _ Y ⟨hY,rfl⟩;dsimp only at hR;have hp2:=hY.p.pos;have tl:st2.tok.text.length<=8192:=by omega
  refine⟨Nat,fun tb=>⟨[(0,At0 g),(2,At0 w.heap.size),(5,At0 tb)],[]⟩,fun tb Y=>SimB w g l c s st2 tb (.mk 9 st2.tok.text []) none 0 Y,?_,?_⟩
  ·exact⟨_,zc (za hY.p.f) (i:=2) rfl,zf (.mk 9 st2.tok.text []) none 0,rfl,hY.box rfl fun Z hZ _ _=>⟨_,(cvE rfl rfl),hZ⟩⟩
  clear hY Y;rintro tb Z hZ;refine⟨Unit,fun _=>⟨[(0,At0 g),(2,At0 w.heap.size),(5,At0 tb)],[]⟩,fun _ Y=>SimB w g l c s st2 tb (.mk 9 st2.tok.text []) none 0 Y/\st2.tok.kind=5,?_,?_⟩
  ·refine⟨_,zc (za hZ.p.f) (i:=1) rfl,biE (fun h4=>?_) fun h4=>?_⟩
   ·have h4:(!decide ((st2.tok.kind:Int)=((5:Nat):Int)))=true:=h4;rw [zX] at h4;have h4:st2.tok.kind≠5:=(by simpa using h4);rw [Gz h4] at hR;have hE:=hZ.drew;refine DrawE.treeQ [2,3] (.op 1 (.alt (.op 2 (.op 0 (.op 3 (.op 4 .nil)))) (.op 0 (.op 2 (.op 3 (.op 4 .nil)))))) (by kernel_rfl) (Gp ?_ ?_)
    ·refine cmo (jM hE.p 110) ?_;rintro e2 V ⟨rfl,hV,gV⟩;have hE2:=hE.grown hV gV;exact⟨_,rfl,za hE2.x,hlt hE2.x,hE2.ans.none hR⟩
    ·refine⟨_,rfl,za hE.x,hlt hE.x,cmo (jM hE.p 110) ?_⟩;rintro e2 V ⟨rfl,hV,gV⟩;exact (hE.grown hV gV).ans.none hR
   ·have h4:(!decide ((st2.tok.kind:Int)=((5:Nat):Int)))=false:=h4;rw [zX] at h4;exact⟨(),(cvE rfl rfl),hZ,by simpa using h4⟩
  clear hZ Z;rintro _ Z ⟨hZ,h4⟩;rw [Gy (fun k=>k h4)] at hR;refine⟨Unit,fun _=>⟨[(0,At0 g),(2,At0 w.heap.size),(5,At0 tb)],[]⟩,fun _ Y=>SimB w g l c s st2 tb (.mk 9 st2.tok.text []) none 0 Y/\zh6 st2.tok.text=true,?_,?_⟩
  ·refine⟨_,zc (za hZ.x) (i:=1) rfl,cmo (zni st2.tok.text Z) ?_⟩;rintro e _ ⟨rfl,rfl⟩;refine biE (fun h5=>?_) fun h5=>?_
   ·have h5:(!zh6 st2.tok.text)=true:=h5;have h5:zh6 st2.tok.text=false:=(by simpa using h5);rw [Gz h5] at hR;have hE:=hZ.drew;refine DrawE.treeQ [2,3] (.op 1 (.alt (.op 2 (.op 0 (.op 3 (.op 4 .nil)))) (.op 0 (.op 2 (.op 3 (.op 4 .nil)))))) (by kernel_rfl) (Gp ?_ ?_)
    ·refine cmo (jM hE.p 112) ?_;rintro e2 V ⟨rfl,hV,gV⟩;have hE2:=hE.grown hV gV;exact⟨_,rfl,za hE2.x,hlt hE2.x,hE2.ans.none hR⟩
    ·refine⟨_,rfl,za hE.x,hlt hE.x,cmo (jM hE.p 112) ?_⟩;rintro e2 V ⟨rfl,hV,gV⟩;exact (hE.grown hV gV).ans.none hR
   ·have h5:(!zh6 st2.tok.text)=false:=h5;exact⟨(),(cvE rfl rfl),hZ,by simpa using h5⟩
  clear hZ Z;rintro _ Z ⟨hZ,h5⟩;rw [Gy (by rw [h5];decide)] at hR;refine⟨Unit,fun _=>⟨[(0,At0 g),(2,At0 w.heap.size),(5,At0 tb)],[]⟩,fun _ Y=>SimB w g l c s (nx s st2) tb (.mk 9 st2.tok.text []) none 0 Y,?_,?_⟩
  ·refine cmo (zbO hZ.p) ?_;rintro e Z2 ⟨rfl,hZ2,gZ2⟩;exact⟨(),(cvE rfl rfl),hZ.grown hZ2 gZ2⟩
  clear hZ Z;rintro _ Z hZ;have hE:=hZ.drew;have eR:R=((if (qj (zH s) 6 [93] (nx s st2)).1=true then some (.mk 9 st2.tok.text []) else none),(qj (zH s) 6 [93] (nx s st2)).2):=by
   rw [hR];show (match qj (zH s) 6 [93] (nx s st2) with | (true,st3)=>_ | (false,st3)=>_)=_
   cases qj (zH s) 6 [93] (nx s st2) with
   | mk b st3=>cases b <;> rfl
  refine DrawE.treeQ [2,3] (.op 1 (.alt (.op 2 (.op 0 (.op 3 (.op 4 .nil)))) (.op 0 (.op 2 (.op 3 (.op 4 .nil)))))) (by kernel_rfl) (Gp ?_ ?_)
  ·refine cmo (zcY hE.p 6 [93]) ?_;rintro e2 V ⟨rfl,hV,gV⟩;have hE2:=hE.grown hV gV;exact⟨_,rfl,za hE2.x,hlt hE2.x,hE2.ans.leaf eR rfl tl⟩
  ·refine⟨_,rfl,za hE.x,hlt hE.x,cmo (zcY hE.p 6 [93]) ?_⟩;rintro e2 V ⟨rfl,hV,gV⟩;exact (hE.grown hV gV).ans.leaf eR rfl tl
 have h2:isP st [91]=false:=h2;rw [Gy (by rw [h2];exact Ku)] at hR;refine⟨Bool,fun b=>⟨[(0,At0 g),(2,At0 w.heap.size),(75,.bool b)],[]⟩,fun b Y=>AnsB w g l c s st Y/\b=(isP st [40]&&decide (st.deep<50)),?_,?_⟩
 ·refine cmo (zsp hX.p [40]) ?_;rintro e _ ⟨rfl,rfl⟩;refine biE (fun h3=>?_) fun h3=>?_
  ·have h3:isP st [40]=true:=h3;refine⟨_,zc (za hX.p.f) (i:=7) rfl,decide (st.deep<50),⟨.cons rfl (.cons rfl (.cons ?_ .nil)),rfl⟩,hX,by rw [h3];rfl⟩;show some (Value.bool (decide ((st.deep:Int)<50)))=some (.bool (decide (st.deep<50)));congr 2;rw [QH];omega
  ·have h3:isP st [40]=false:=h3;exact⟨false,(cvE rfl rfl),hX,by rw [h3];rfl⟩
 clear hX X;rintro b X ⟨hX,hb⟩;refine biE (fun hbt=>?_) fun hbf=>?_
 ·
  have hbt:b=true:=hbt;rw [hbt] at hb;rw [Gz hb.symm] at hR;have hb2:=hb.symm;rw [bAT,dE] at hb2;obtain⟨h3,h4⟩:=hb2;obtain⟨st2,hs2⟩:∃ st2,st2=zaM (zH s) { st with deep:=st.deep+1 }:=⟨_,rfl⟩;rw [<- hs2] at hR;have d2:st2.deep=st.deep+1:=by rw [hs2];rfl
  have at2:st.tok.at_+1<=st2.tok.at_:=by
   have:=zkv s { st with deep:=st.deep+1 };have hl1:=zbR h3;rw [hs2];refine UU ?_ this;show _<=st.tok.at_+st.tok.text.length;rw [hl1];exact Ge _
  have hl0:1<=s.length-st.tok.at_:=by
   have hl1:=zbR h3;have:([40]:Bs).length=1:=rfl;omega
  refine⟨_,zc (za hX.p.f) (i:=7) rfl,((st.deep+1:Nat):Int),(zk (by omega)).trans (by omega),hX.p.deep (n:=st.deep+1) (by omega) fun Y hY gY=>?_⟩;have hXY:=hX.grown hY gY;refine⟨Unit,fun _=>⟨[(0,At0 g),(2,At0 w.heap.size)],[]⟩,fun _ Y=>AnsB w g l c s st2 Y,?_,?_⟩
  ·refine cmo (zbO hXY.p) ?_;rintro e Z ⟨rfl,hZ,gZ⟩;rw [hs2];exact⟨(),(cvE rfl rfl),hXY.grown hZ gZ⟩
  clear hXY hY gY Y hX X;rintro _ Z hZ;rcases htm:termP (zH s) f 1 st2 with ⟨r1,st3⟩;rw [htm] at hR;have hm:=(zbP (s:=s) f).1 1 st2;rw [htm] at hm;have d3:st3.deep=st.deep+1:=by rw [<- d2];exact hm.2.1
  refine⟨Nat×Trm×OA×Nat,fun y=>⟨[(0,At0 g),(2,At0 w.heap.size),(6,At0 y.1),(7,.bool r1.isSome)],[]⟩,fun y Y=>SimB w g l c s st3 y.1 y.2.1 y.2.2.1 y.2.2.2 Y/\∀ x,r1=some x->x=y.2.1/\y.2.1.name.length<=8192/\KidsT (fun b=>w.heap.size<b) Y y.2.2.1 y.2.1.kids,?_,?_⟩
  ·refine cmo (hT 1 st2 Z (by decide) hZ.p (by omega)) ?_;rw [htm];rintro e V ⟨t,q,cap,rfl,hk,hV,gV⟩;dsimp only at hk hV;have hZV:=hZ.grown hV gV;refine hZV.box rfl fun U hU bU _=>⟨(V.heap.size,t,q,cap),(cvE rfl rfl),hU,fun x hx=>?_⟩;obtain⟨k1,k2,k3⟩:=hk x hx;refine⟨k1,k2,(k3.kept bU).weak fun b hb=>?_⟩;have:=hlt hZ.r;omega
  clear hZ Z;rintro⟨tb,t,q,cap⟩ U ⟨hU,hk⟩;dsimp only at hU hk ⊢;refine⟨Unit,fun _=>⟨[(0,At0 g),(2,At0 w.heap.size),(6,At0 tb),(7,.bool r1.isSome)],[]⟩,fun _ Y=>SimB w g l c s { st3 with deep:=st3.deep-1 } tb t q cap Y/\∀ x,r1=some x->x=t/\t.name.length<=8192/\KidsT (fun b=>w.heap.size<b) Y q t.kids,?_,?_⟩
  ·refine⟨_,zc (za hU.p.f) (i:=7) rfl,((st3.deep-1:Nat):Int),(zk (by omega)).trans (by omega),hU.p.deep (n:=st3.deep-1) (by omega) fun T hTb gT=>⟨(),(cvE rfl rfl),hU.grown hTb gT,fun x hx=>?_⟩⟩;obtain⟨k1,k2,k3⟩:=hk x hx;have:=hU.g;exact⟨k1,k2,k3.by fun b cs ty fr hb hc=>gT.block b (hlt hc) (by simp;omega)⟩
  clear hU hk U;rintro _ T ⟨hTT,hk⟩;have hE:=hTT.drew;have hkE:∀ x,r1=some x->x=t/\t.name.length<=8192/\KidsT (fun b=>w.heap.size<b) T.drew q t.kids:=fun x hx=>by
   obtain⟨k1,k2,k3⟩:=hk x hx;exact⟨k1,k2,k3.kept (Gj _ T).drew⟩
  cases r1 with
  | none =>
   refine DrawE.treeQ [4,6] (.op 1 (.op 2 (.op 3 (.alt (.op 4 (.op 0 (.op 5 (.op 6 (.op 7 .nil))))) (.op 0 (.op 4 (.op 5 (.op 6 (.op 7 .nil))))))))) (by kernel_rfl) (brF (Gp ?_ ?_))
   ·exact⟨_,rfl,za hE.x,hlt hE.x,hE.ans.none hR⟩
   ·exact⟨_,rfl,za hE.x,hlt hE.x,hE.ans.none hR⟩
  | some t1 =>
   obtain⟨k1,k2,k3⟩:=hkE t1 rfl;subst k1;have eR:R=((if (qj (zH s) 6 [41] { st3 with deep:=st3.deep-1 }).1=true then some t1 else none),(qj (zH s) 6 [41] { st3 with deep:=st3.deep-1 }).2):=by
    rw [hR];dsimp only
    cases qj (zH s) 6 [41] { st3 with deep:=st3.deep-1 } with
    | mk b st4=>cases b <;> rfl
   have gw:=hE.g;have fEnd:∀ {N:Wd},SimB w g l c s (qj (zH s) 6 [41] { st3 with deep:=st3.deep-1 }).2 tb t1 q cap N->T.drew.grownBy N (some g)->SatR ((storeVar 24 ⟨w.heap.size,0,none⟩ (.agg (zf t1 q cap).toArray)).run PG N) fun _ w'=>∃ us:List Value,us.length=3/\zw w' ⟨w.heap.size,0,none⟩ us/\zlv g l c s w R (.returned (j7 [.agg us.toArray,.bool (qj (zH s) 6 [41] { st3 with deep:=st3.deep-1 }).1])) w':=by
    intro N hN gN;refine hN.ans.fin (by rw [eR];dsimp only;cases (qj (zH s) 6 [41] { st3 with deep:=st3.deep-1 }).1 <;> rfl) (by rw [eR]) fun x hx=>?_;rw [eR] at hx;dsimp only at hx
    split at hx
    ·exact⟨(Ug hx).symm,k2,k3.by fun b cs ty fr hb hc=>gN.block b (hlt hc) (by simp;omega)⟩
    ·cases hx
   refine DrawE.treeQ [4,6] (.op 1 (.op 2 (.op 3 (.alt (.op 4 (.op 0 (.op 5 (.op 6 (.op 7 .nil))))) (.op 0 (.op 4 (.op 5 (.op 6 (.op 7 .nil))))))))) (by kernel_rfl) (brT (Gp ?_ ?_))
   ·refine cmo (zcY hE.p 6 [41]) ?_;rintro e2 N ⟨rfl,hN,gN⟩;have hE2:=hE.grown hN gN;exact⟨_,rfl,za hE2.x,hlt hE2.x,fEnd hE2 gN⟩
   ·refine⟨_,rfl,za hE.x,hlt hE.x,cmo (zcY hE.p 6 [41]) ?_⟩;rintro e2 N ⟨rfl,hN,gN⟩;exact fEnd (hE.grown hN gN) gN
 ·have hbf:b=false:=hbf;rw [hbf] at hb;rw [Gy (by rw [<- hb];exact Ku)] at hR;refine⟨zf zT none 0,rfl,cmo (jM hX.p 110) ?_⟩;rintro e2 V ⟨rfl,hV,gV⟩;exact (hX.grown hV gV).none hR
end
theorem zpg {n:Nat} (h:n<=255):u8n n=u8 (UInt8.ofNat n):=by
 unfold u8n u8;rw [KH,QC (by omega)]
section
variable {Q:Nat->Prop} {w:Wd}
theorem KidsT.one {t:Trm} {q:OA} {cap b:Nat} (hb:Q b) (hc:zw w ⟨b,0,none⟩ (zf t q cap)) (hn:t.name.length<=8192) (hk:KidsT Q w q t.kids):KidsT Q w (some ⟨b,0,none⟩) [t] :=
 .mk _ [t] (by show 1<=_;decide) b 0 (.inr rfl) (fun _=>q) (fun _=>cap) (fun i hi=>by
  obtain rfl:i=0:=by have:i<1:=hi;omega
  exact⟨by show t.name.length<=_;omega,hb,hc⟩) (fun i hi=>by
  obtain rfl:i=0:=by have:i<1:=hi;omega
  exact hk)
theorem KidsT.two {t u:Trm} {q p:OA} {cap cp b:Nat} (hb:Q b) (hc:zw w ⟨b,0,none⟩ (zf t q cap++zf u p cp)) (hn:t.name.length<=140737488351232) (hk:KidsT Q w q t.kids) (hn2:u.name.length<=140737488351232) (hk2:KidsT Q w p u.kids):KidsT Q w (some ⟨b,0,none⟩) [t,u]:=by
 have hc2:=zoU.1 hc;refine .mk _ [t,u] (by show 2<=_;decide) b 0 (.inr rfl) (fun i=>if i=0 then q else p) (fun i=>if i=0 then cap else cp) (fun i hi=>?_) (fun i hi=>?_)
 ·have hi:i<2:=hi;rcases (by omega:i=0\/i=1) with rfl | rfl
  ·exact⟨by show t.name.length<=_;omega,hb,hc2.1⟩
  ·exact⟨by show u.name.length<=_;omega,hb,hc2.2⟩
 ·have hi:i<2:=hi;rcases (by omega:i=0\/i=1) with rfl | rfl
  ·exact hk
  ·exact hk2
end
def zfh (st:PS):Nat->Nat
 | 0=>0
 | i+1=>if isP st (jY.getD (6+i) []) then 6+i else zfh st i
theorem zkn (st:PS):∀ i,i<=3->zfh st i<=8
 | 0,_=>Gg _
 | i+1,h=>by
  unfold zfh
  split
  ·omega
  ·exact zkn st i (by omega)
theorem zok {st:PS} (h:zcu st≠0):1<=st.tok.text.length:=by
 unfold zcu at h
 split at h
 ·rename_i h1;rw [zbR h1];decide
 ·split at h
  ·rename_i h1;rw [zbR h1];decide
  ·split at h
   ·rename_i h1;rw [zbR h1];decide
   ·exact GA rfl h
theorem ziB {st:PS} (h:qt st≠0):1<=st.tok.text.length/\2<=qt st/\qt st<=5/\zb0.getD (qt st) 0=qt st-1:=by
 unfold qt at h ⊢
 split
 ·rename_i h1;rw [zbR h1];decide
 ·split
  ·rename_i h1;rw [zbR h1];decide
  ·split
   ·rename_i h1;rw [zbR h1];decide
   ·split
    ·rename_i h1;rw [zbR h1];decide
    ·rename_i h1 h2 h3 h4;rw [Gy h1,Gy h2,Gy h3,Gy h4] at h;exact GA rfl h
theorem zna {s:Bs} {st st2:PS} (h:zaB (zH s) st=(true,st2)) (hl:1<=st.tok.text.length):st.tok.at_+1<=st2.tok.at_:=by
 unfold zaB at h
 split at h
 ·cases h
 ·have h2:=(Gh h).2;rw [<- h2];have:=zkv s { st with nodes:=st.nodes+1 };refine UU ?_ this;show _<=st.tok.at_+st.tok.text.length;omega
section
variable {g l c:Nat} {s:Bs} {st:PS} {w w2 X:Wd}
theorem SimB.store {tb:Nat} {t t':Trm} {q q':OA} {cap cap':Nat} {Y:Wd} (h:SimB w g l c s st tb t q cap Y) {K:Wd->Prop} (k:∀ Z,SimB w g l c s st tb t' q' cap' Z->(∀ j,j≠tb->Z.heap[j]?=Y.heap[j]?)->K Z) :
  SatR ((storeVar 24 ⟨tb,0,none⟩ (.agg (zf t' q' cap').toArray)).run PG Y) fun _ w'=>K w' :=
 zfQ (t:=t') (q:=q') (cap:=cap') (UT h.lt) h.x rfl h.p h.o h.g fun Z hZ gZ fZ oZ _=>k Z ⟨hZ,(oZ _ (by have:=h.lt;omega)).trans h.r,fZ,gZ,h.lt,h.g⟩ oZ
theorem SimB.below {tb:Nat} {t:Trm} {q:OA} {cap:Nat} {Y Z:Wd} (h:SimB w g l c s st tb t q cap Y) (hb:Bw Y Z):SimB w g l c s st tb t q cap Z :=
 h.grown (h.p.below hb) (zi hb)
theorem zpm {n:Nat} (hT:zlx g l c s n) (h:ParB g l c s st w) (hf:4*(s.length-st.tok.at_)<=n) :
  Calls PG 162 #[At0 g] w (zlv g l c s w (tightP (zH s) (n+2) st)):=by
 refine qa 36 [At0 g] (.c .p (.s .p (.s (.b (.l (.s .p (.b (.s .p (.c .p (.c .p (.c .p .p)))))))) .p))) Tryz.func162 ?_;obtain⟨R,hR⟩:=nm (tightP (zH s) (n+2) st);rw [<- hR];rw [tightP] at hR;refine⟨Unit,fun _=>⟨[(0,At0 g),(2,At0 w.heap.size)],[]⟩,fun _ X=>AnsB w g l c s st X,⟨(),(cvE rfl rfl),h.below (zba _ _),zz w _,zi (zba _ _),h.lt⟩,?_⟩;rintro _ X hX;refine cmo (zn1 hT hX.p hf) ?_;rintro e V ⟨t,q,cap,rfl,hk,hV,gV⟩;have hm:=(zbP (s:=s) (n+1)).2.2.2.2 st;rcases hsm:simpleP (zH s) (n+1) st with ⟨r1,st1⟩;rw [hsm] at hk hV hm hR;dsimp only at hk hV hm hR;have hXs:=hlt hX.r;have hVV:=hX.grown hV gV;refine hVV.box rfl fun U hU bU _=>?_;obtain⟨tb,htb⟩:=nm (V.heap.size);rw [<- htb] at hU ⊢;refine⟨Trm×OA×Nat×Bool×PS×Nat,fun y=>⟨[(0,At0 g),(2,At0 w.heap.size),(4,At0 tb),(5,.bool y.2.2.2.1)],[]⟩,
  fun y Y=>SimB w g l c s y.2.2.2.2.1 tb y.1 y.2.1 y.2.2.1 Y /\
   (y.2.2.2.1=true->y.1.name.length<=8192/\KidsT (fun b=>w.heap.size<b/\b≠tb) Y y.2.1 y.1.kids/\R=postsP (zH s) y.2.2.2.2.2 y.1 y.2.2.2.2.1/\s.length-y.2.2.2.2.1.tok.at_+1<=y.2.2.2.2.2) /\
   (y.2.2.2.1=false->R=(none,y.2.2.2.2.1)),
  fun y=>if y.2.2.2.1 then y.2.2.2.2.2+1 else 0,(t,q,cap,r1.isSome,st1,n+1),(cvE rfl rfl),?_,?_⟩
 ·refine⟨hU,fun ho=>?_,fun ho=>?_⟩
  ·cases r1 with
   | none=>cases ho
   | some t1 =>
    obtain⟨e1,e2,e3⟩:=hk t1 rfl;refine⟨e2,(e3.there.kept bU).weak fun b hb=>by omega,by rw [hR,<- e1],?_⟩;have h1:=hm.1;dsimp only;omega
  ·cases r1 with
   | none=>exact hR
   | some t1=>cases ho
 clear hk hm hR hU bU hVV hV gV hT hf hsm hXs hX;rintro⟨t,q,cap,ok,st1,f1⟩ Y ⟨hY,hok,hno⟩;dsimp only at hY hok hno ⊢;refine biE (fun ho=>?_) fun ho=>?_
 ·have ho:ok=true:=ho;subst ho;obtain⟨hn,hk,hR,hf1⟩:=hok rfl;clear hok hno;obtain⟨f',rfl⟩:∃ f',f1=f'+1:=⟨f1-1,by omega⟩;rw [postsP] at hR;refine⟨Unit,fun _=>⟨[(0,At0 g),(2,At0 w.heap.size),(4,At0 tb),(5,.bool true),(6,u8n (zcu st1))],[]⟩,fun _ V=>Y=V,?_,?_⟩
  ·refine⟨[.int .u8 6,.int .u8 7,.int .u8 8],rfl,?_⟩;refine⟨Nat,fun i=>⟨[(0,At0 g),(2,At0 w.heap.size),(4,At0 tb),(5,.bool true),(6,u8n (zfh st1 i)),(15,.agg #[.int .u8 6,.int .u8 7,.int .u8 8]),(16,.int .i64 (i:Nat))],[]⟩,fun i V=>i<=3/\Y=V,fun i=>3-i,0,
    (cvE rfl rfl),⟨Gg _,rfl⟩,?_⟩
   rintro i _ ⟨hi,rfl⟩;refine biE (fun h1=>?_) fun h1=>?_
   ·have h1:(i:Int)<3:=dT h1;have hget:[Value.int .u8 6,.int .u8 7,.int .u8 8][i*1]?=some (u8n (6+i)):=by
     rcases (by omega:i=0\/i=1\/i=2) with rfl | rfl | rfl <;> rfl
    refine⟨i,rfl,by omega,?_⟩;refine zbv hget ⟨6+i,rfl,by omega,?_⟩;refine⟨_,by rw [Gf];exact zgK hY.p.glob (by omega),cmo (zsp hY.p (jY.getD (6+i) [])) ?_⟩;rintro e _ ⟨rfl,rfl⟩;refine biE (fun h2=>?_) fun h2=>?_
    ·have h2:isP st1 (jY.getD (6+i) [])=true:=h2;have e:zfh st1 (i+1)=6+i:=(by rw [zfh,Gz h2]);exact nxI (by omega) ⟨i+1,⟨.cons rfl (.cons rfl (.cons rfl (.cons rfl (.cons (Gs (fun n:Nat=>some (u8n n)) e.symm) (.cons rfl (.cons rfl .nil)))))),rfl⟩,⟨by omega,rfl⟩,by dsimp only;omega⟩
    ·have h2:isP st1 (jY.getD (6+i) [])=false:=h2;have e:zfh st1 (i+1)=zfh st1 i:=(by rw [zfh,Gy (by rw [h2];exact Ku)]);exact nxI (by omega) ⟨i+1,⟨.cons rfl (.cons rfl (.cons rfl (.cons rfl (.cons (Gs (fun n:Nat=>some (u8n n)) e.symm) (.cons rfl (.cons rfl .nil)))))),rfl⟩,⟨by omega,rfl⟩,by dsimp only;omega⟩
   ·have h1:¬ (i:Int)<3:=dF h1;obtain rfl:i=3:=(by omega);exact⟨(),(cvE rfl rfl),rfl⟩
  rintro _ _ rfl;refine⟨Unit,fun _=>⟨[(0,At0 g),(2,At0 w.heap.size),(4,At0 tb),(6,u8n (zcu st1))],[]⟩,fun _ V=>zcu st1≠0/\Y=V,?_,?_⟩
  ·refine biE (fun h2=>?_) fun h2=>?_
   ·have h2:((zcu st1:Nat):Int)=0:=dT h2;rw [Gz (by omega)] at hR;refine⟨_,rfl,za hY.x,hlt hY.x,?_⟩;exact hY.ans.fin (by rw [hR];rfl) (by rw [hR]) fun x hx=>by
     rw [hR] at hx;exact⟨(Ug hx).symm,hn,hk.weak fun b hb=>hb.1⟩
   ·have h2:¬ ((zcu st1:Nat):Int)=0:=dF h2;exact⟨(),(cvE rfl rfl),by omega,rfl⟩
  rintro _ _ ⟨hp0,rfl⟩;rw [Gy hp0] at hR;have hp8:zcu st1<=8:=zkn st1 3 (by decide);have hlen1:=zok hp0;rcases hne:zaB (zH s) st1 with ⟨b,st2⟩;rw [hne] at hR;refine⟨Unit,fun _=>⟨[(0,At0 g),(2,At0 w.heap.size),(4,At0 tb),(5,.bool b),(6,u8n (zcu st1))],[]⟩,fun _ N=>SimB w g l c s st2 tb t q cap N/\KidsT (fun b=>w.heap.size<b/\b≠tb) N q t.kids,?_,?_⟩
  ·refine cmo (zhl hY.p) ?_;rw [hne];rintro e N ⟨rfl,hN,gN⟩;have:=hY.g;exact⟨(),(cvE rfl rfl),hY.grown hN gN,hk.by fun b cs ty fr hb hc=>gN.block b (hlt hc) (by simp;omega)⟩
  have hps:=hY.p.pos;clear hY hk Y;rintro _ N ⟨hN,hk⟩;refine⟨_,rfl,za hN.x,hlt hN.x,⟨by decide,by decide,rfl⟩,zf t q cap,rfl,zf (.mk (UInt8.ofNat (zcu st1)) [] [t]) (some ⟨N.heap.size,0,none⟩) 1,?_,?_⟩
  ·show some [u8n (zcu st1),zu [],.slice (some ⟨N.heap.size,0,none⟩) 1 1]=_;rw [zpg (by omega)];rfl
  have hlx:=hlt hN.x;have bN:=zba N (.cells (zf t q cap).toArray 24);have fnb:=zz N (.cells (zf t q cap).toArray 24);refine (hN.below bN).store fun Z hZ oZ=>⟨(.mk (UInt8.ofNat (zcu st1)) [] [t],some ⟨N.heap.size,0,none⟩,1,b,st2,f'),(cvE rfl rfl),⟨hZ,fun hb=>?_,fun hb=>?_⟩,?_⟩
  ·have hb:b=true:=hb;subst hb;have hon:=zna hne hlen1;have:=hN.lt;refine⟨by show ([]:Bs).length<=_;decide,.one (q:=q) (cap:=cap) ⟨by omega,by omega⟩ ?_ hn ?_,hR,by dsimp only;omega⟩
   ·exact za ((oZ _ (by omega)).trans fnb)
   ·exact (hk.kept bN).by fun b cs ty fr hb hc=>oZ b hb.2
  ·have hb:b=false:=hb;subst hb;exact hR
  ·cases b
   ·show 0<f'+1+1;omega
   ·show f'+1<f'+1+1;omega
 ·have ho:ok=false:=ho;subst ho;have hR:=hno rfl;exact⟨zf zT none 0,rfl,hY.ans.none hR⟩
end
section
variable {g l c:Nat} {s:Bs} {st:PS} {w w2 X:Wd}
theorem zrC {n:Nat} (hT:∀ f,f<n+3->zlx g l c s f):zlx g l c s (n+3):=by
 intro least st w hl5 h hf;refine qa 46 [At0 g,i64 (least:Nat)] (.c .p (.s .p (.s (.b (.l (.s .p (.b (.c .p (.c .p (.c .p (.s .p (.c .p .p)))))))) ) .p))) Tryz.func111 ?_;obtain⟨R,hR⟩:=nm (termP (zH s) (n+3) least st);rw [<- hR];rw [termP] at hR;refine⟨Unit,fun _=>⟨[(0,At0 g),(1,i64 (least:Nat)),(4,At0 w.heap.size)],[]⟩,fun _ X=>AnsB w g l c s st X,⟨(),(cvE rfl rfl),h.below (zba _ _),zz w _,zi (zba _ _),h.lt⟩,?_⟩;rintro _ X hX;refine cmo (zpm (hT n (by omega)) hX.p (by omega)) ?_;rintro e V ⟨t,q,cap,rfl,hk,hV,gV⟩;have hm:=(zbP (s:=s) (n+2)).2.2.1 st;rcases hsm:tightP (zH s) (n+2) st with ⟨r1,st1⟩;rw [hsm] at hk hV hm hR;dsimp only at hk hV hm hR;have hXs:=hlt hX.r;have hVV:=hX.grown hV gV;refine hVV.box rfl fun U hU bU _=>?_;obtain⟨tb,htb⟩:=nm (V.heap.size);rw [<- htb] at hU ⊢;refine⟨Trm×OA×Nat×Bool×PS×Nat,fun y=>⟨[(0,At0 g),(1,i64 (least:Nat)),(4,At0 w.heap.size),(6,At0 tb),(7,.bool y.2.2.2.1)],[]⟩,
  fun y Y=>SimB w g l c s y.2.2.2.2.1 tb y.1 y.2.1 y.2.2.1 Y/\y.2.2.2.2.2<=n+2 /\
   (y.2.2.2.1=true->y.1.name.length<=8192/\KidsT (fun b=>w.heap.size<b/\b≠tb) Y y.2.1 y.1.kids/\R=moreP (zH s) y.2.2.2.2.2 least y.1 y.2.2.2.2.1/\4*(s.length-y.2.2.2.2.1.tok.at_)+1<=y.2.2.2.2.2) /\
   (y.2.2.2.1=false->R=(none,y.2.2.2.2.1)),
  fun y=>if y.2.2.2.1 then y.2.2.2.2.2+1 else 0,(t,q,cap,r1.isSome,st1,n+2),(cvE rfl rfl),?_,?_⟩
 ·refine⟨hU,Ge _,fun ho=>?_,fun ho=>?_⟩
  ·cases r1 with
   | none=>cases ho
   | some t1 =>
    obtain⟨e1,e2,e3⟩:=hk t1 rfl;refine⟨e2,(e3.there.kept bU).weak fun b hb=>by omega,by rw [hR,<- e1],?_⟩;have h1:=hm.1;dsimp only;omega
  ·cases r1 with
   | none=>exact hR
   | some t1=>cases ho
 clear hk hm hR hU bU hVV hV gV hf hsm hXs hX;rintro⟨t,q,cap,ok,st1,f1⟩ Y ⟨hY,hfn,hok,hno⟩;dsimp only at hY hfn hok hno ⊢;refine biE (fun ho=>?_) fun ho=>?_
 ·have ho:ok=true:=ho;subst ho;obtain⟨hn,hk,hR,hf1⟩:=hok rfl;clear hok hno;obtain⟨f',rfl⟩:∃ f',f1=f'+1:=⟨f1-1,by omega⟩;rw [moreP] at hR;have hps:=hY.p.pos;refine⟨Unit,fun _=>⟨[(0,At0 g),(1,i64 (least:Nat)),(4,At0 w.heap.size),(6,At0 tb),(7,.bool true),(8,u8n (qt st1))],[]⟩,fun _ V=>Y=V,?_,?_⟩
  ·refine cmo (zl3 hY.p) ?_;rintro e _ ⟨rfl,rfl⟩;exact⟨(),(cvE rfl rfl),rfl⟩
  rintro _ _ rfl;refine⟨Unit,fun _=>⟨[(0,At0 g),(1,i64 (least:Nat)),(4,At0 w.heap.size),(6,At0 tb),(8,u8n (qt st1))],[]⟩,fun _ V=>qt st1≠0/\¬ qt st1-1<least/\Y=V,?_,?_⟩
  ·have stop:(qt st1=0\/qt st1-1<least)->∃ us:List Value,us.length=3/\zw Y ⟨tb,0,none⟩ us/\tb<Y.heap.size /\
     SatR ((storeVar 24 ⟨w.heap.size,0,none⟩ (.agg us.toArray)).run PG Y) fun _ w'=>∃ us:List Value,us.length=3/\zw w' ⟨w.heap.size,0,none⟩ us/\zlv g l c s w R (.returned (j7 [.agg us.toArray,.bool true])) w':=by
    intro hc;rw [Gz hc] at hR;refine⟨_,rfl,za hY.x,hlt hY.x,?_⟩;exact hY.ans.fin (by rw [hR];rfl) (by rw [hR]) fun x hx=>by
     rw [hR] at hx;exact⟨(Ug hx).symm,hn,hk.weak fun b hb=>hb.1⟩
   refine biE (fun h2=>?_) fun h2=>?_
   ·have h2:((qt st1:Nat):Int)=0:=dT h2;exact brT (stop (.inl (by omega)))
   have h2:¬ ((qt st1:Nat):Int)=0:=dF h2;have hp0:qt st1≠0:=by omega
   obtain⟨_,ho2,ho5,hst⟩:=ziB hp0;refine⟨qt st1,rfl,by omega,?_⟩;have hsa:=zbt hY.p.glob (k:=qt st1) (by omega);rw [hst] at hsa;refine⟨_,by rw [Gf];exact hsa,?_⟩;refine biE (fun h3=>?_) fun h3=>?_
   ·have h3:((qt st1-1:Nat):Int)<(least:Int):=dT h3;exact stop (.inr (by omega))
   ·have h3:¬ ((qt st1-1:Nat):Int)<(least:Int):=dF h3;exact⟨(),(cvE rfl rfl),hp0,by omega,rfl⟩
  rintro _ _ ⟨hp0,hnl,rfl⟩;obtain⟨hlen1,ho2,ho5,hst⟩:=ziB hp0;rw [Gy (by rintro (h | h);exact hp0 h;exact hnl h)] at hR;rcases hne:zaB (zH s) st1 with ⟨b,st2⟩;rw [hne] at hR;refine⟨Unit,fun _=>⟨[(0,At0 g),(1,i64 (least:Nat)),(4,At0 w.heap.size),(6,At0 tb),(8,u8n (qt st1))],[]⟩,fun _ N=>b=true/\SimB w g l c s st2 tb t q cap N/\KidsT (fun b=>w.heap.size<b/\b≠tb) N q t.kids,?_,?_⟩
  ·refine cmo (zhl hY.p) ?_;rw [hne];rintro e N ⟨rfl,hN,gN⟩;have hYN:=hY.grown hN gN;have:=hY.g;refine biE (fun h4=>?_) fun h4=>?_
   ·have h4:(!b)=true:=h4;have h4:b=false:=(by simpa using h4);subst h4;exact⟨zf zT none 0,rfl,hYN.ans.none hR⟩
   ·have h4:(!b)=false:=h4;exact⟨(),(cvE rfl rfl),by simpa using h4,hYN,hk.by fun b cs ty fr hb hc=>gN.block b (hlt hc) (by simp;omega)⟩
  have hon:b=true->st1.tok.at_+1<=st2.tok.at_:=fun hb=>by subst hb;exact zna hne hlen1
  clear hY hk;rintro _ N ⟨rfl,hN,hk⟩;have hon:=hon rfl;dsimp only at hR;rcases htm:termP (zH s) f' (qt st1) st2 with ⟨r2,st3⟩;rw [htm] at hR;have hm2:=(zbP (s:=s) f').1 (qt st1) st2;rw [htm] at hm2;have hlx:=hlt hN.x;refine⟨Nat×Trm×OA×Nat,fun y=>⟨[(0,At0 g),(1,i64 (least:Nat)),(4,At0 w.heap.size),(6,At0 tb),(7,.bool r2.isSome),(8,u8n (qt st1)),(9,At0 y.1)],[]⟩,fun y P=>SimB w g l c s st3 tb t q cap P/\KidsT (fun b=>w.heap.size<b/\b≠tb) P q t.kids /\
   P.heap[y.1]?=some (.cells (zf y.2.1 y.2.2.1 y.2.2.2).toArray 24 (0,0))/\∀ x,r2=some x->x=y.2.1/\y.2.1.name.length<=8192/\KidsT (fun b=>w.heap.size<b/\b≠tb) P y.2.2.1 y.2.1.kids,?_,?_⟩
  ·obtain⟨M,hM⟩:=nm (N.alloc (.cells (zf zT none 0).toArray 24));have bM:Bw N M:=by rw [hM];exact zba _ _
   have fm:M.heap[N.heap.size]?=some (.cells (zf zT none 0).toArray 24 (0,0)):=by rw [hM];exact zz N _
   have sM:M.heap.size=N.heap.size+1:=by rw [hM];exact wz _ _
   have hNM:=hN.below bM;have hkM:=hk.kept bM;refine⟨qt st1,rfl,by omega,?_⟩;have hsa:=zbt hNM.p.glob (k:=qt st1) (by omega);rw [hst,hM] at hsa;refine⟨_,by rw [Gf];exact hsa,?_⟩;refine⟨((qt st1:Nat):Int),(zk (by omega)).trans (by omega),?_⟩;have hcall:=hT f' (by omega) (qt st1) st2 M ho5 hNM.p (by omega);rw [htm,hM] at hcall;refine cmo hcall ?_;rw [<- hM];rintro e P ⟨u,p,cp,rfl,hku,hP,gP⟩;dsimp only at hku hP;have hgw:=hN.g;have hP2:=hNM.grown hP gP;have fmP:=(gP.block _ (hlt fm) (by have:=hN.lt;simp;omega)).trans fm;have sP:=gP.size;refine zfQ (t:=u) (q:=p) (cap:=cp) (by have:=hN.lt;omega) fmP rfl hP hP2.o hgw fun O hO gO fO oO sO=>?_;have hlt9:=hN.lt;refine⟨(N.heap.size,u,p,cp),(cvE rfl rfl),⟨hO,(oO _ (by omega)).trans hP2.r,(oO _ (by omega)).trans hP2.x,gO,hlt9,hgw⟩,?_,fO,fun x hx=>?_⟩
   ·have k1:KidsT (fun b=>(w.heap.size<b/\b≠tb)/\b<N.heap.size) N q t.kids:=hk.there;refine (k1.by fun b cs ty fr hb hc=>?_).weak fun b hb=>hb.1;rw [oO b (by omega),gP.block b (by omega) (by simp;omega),bM.block b hb.2]
   ·obtain⟨e1,e2,e3⟩:=hku x hx;refine⟨e1,e2,(e3.by fun b cs ty fr hb hc=>oO b (by omega)).weak fun b hb=>by omega⟩
  clear hN hk;rintro⟨rb2,u,p,cp⟩ O ⟨hO,hkt,fO,hku⟩;dsimp only at fO hku ⊢;refine⟨_,rfl,za hO.x,hlt hO.x,_,rfl,za fO,hlt fO,⟨by decide,by decide,rfl⟩,zf t q cap++zf u p cp,rfl,zf (.mk (UInt8.ofNat (qt st1)) [] [t,u]) (some ⟨O.heap.size,0,none⟩) 2,?_,?_⟩
  ·show some [u8n (qt st1),zu [],.slice (some ⟨O.heap.size,0,none⟩) 2 2]=_;rw [zpg (by omega)];rfl
  have hlo:=hlt hO.x;have bN:=zba O (.cells (zf t q cap++zf u p cp).toArray 24);have fnb:=zz O (.cells (zf t q cap++zf u p cp).toArray 24);refine (hO.below bN).store fun Z hZ oZ=>⟨(.mk (UInt8.ofNat (qt st1)) [] [t,u],some ⟨O.heap.size,0,none⟩,2,r2.isSome,st3,f'),(cvE rfl rfl),⟨hZ,by dsimp only;omega,fun hb=>?_,fun hb=>?_⟩,?_⟩
  ·cases r2 with
   | none=>cases hb
   | some t2 =>
    obtain⟨e1,e2,e3⟩:=hku t2 rfl;have hat:=hm2.1;have:=hO.lt;refine⟨by show ([]:Bs).length<=_;decide,.two (q:=q) (cap:=cap) (p:=p) (cp:=cp) ⟨by omega,by omega⟩ ?_ (by omega) ?_ (by omega) ?_,by rw [hR,<- e1],by dsimp only at hat ⊢;omega⟩
    ·exact za ((oZ _ (by omega)).trans fnb)
    ·exact (hkt.kept bN).by fun b cs ty fr hb hc=>oZ b hb.2
    ·exact (e3.kept bN).by fun b cs ty fr hb hc=>oZ b hb.2
  ·cases r2 with
   | none=>exact hR
   | some t2=>cases hb
  ·show (if r2.isSome then f'+1 else 0)<f'+1+1
   split <;> omega
 ·have ho:ok=false:=ho;subst ho;have hR:=hno rfl;exact⟨zf zT none 0,rfl,hY.ans.none hR⟩
theorem zj0:∀ f,zlx g l c s f:=fun f=>by
 induction f using Nat.strongRecOn with
 | ind f ih =>
  match f,ih with
  | 0,_=>exact fun least st w _ _ hf=>GA hf (by omega)
  | 1,_=>exact fun least st w _ _ hf=>GA hf (by omega)
  | 2,_=>exact fun least st w _ _ hf=>GA hf (by omega)
  | n+3,ih=>exact zrC ih
end
structure Oth (g l c:Nat) (w w':Wd):Prop where
 os:w'.os=w.os
 tape:w'.tape=w.tape
 output:w'.output=w.output
 size:w.heap.size<=w'.heap.size
 block:∀ j,j<w.heap.size->j≠g->j≠l->j≠c->w'.heap[j]?=w.heap[j]?
def zC (k:Nat) (nq:Bs) (t:Trm) (q:OA) (cap:Nat):List Value:=u8n k::zu nq::zf t q cap
def zrh (g l c:Nat) (s:Bs) (w:Wd) (r:Option LineD×PS) (e:Ending) (w':Wd):Prop :=
 ∃ (k:Nat) (nq:Bs) (t:Trm) (q:OA) (cap:Nat),e = .returned (.tuple #[.agg (zC k nq t q cap).toArray,.bool r.1.isSome]) /\
  (∀ x,r.1=some x->x=⟨k,nq,t⟩/\k<=3/\nq.length<=8192/\t.name.length<=8192/\KidsT (fun b=>w.heap.size<=b) w' q t.kids)/\ParB g l c s r.2 w'/\Oth g l c w w'
section
variable {g l c:Nat} {s:Bs} {st:PS} {w w2 w3 X:Wd}
theorem Oth.of_grown (h:w.grownBy w2 (some g)):Oth g l c w w2:=⟨h.os,h.tape,h.output,h.size,fun j hj h1 _ _=>h.block j hj (by simp;omega)⟩
theorem Oth.of_below (h:Bw w w2):Oth g l c w w2:=⟨h.os,h.tape,h.output,h.size,fun j hj _ _ _=>h.block j hj⟩
theorem Oth.trans (h:Oth g l c w w2) (k:Oth g l c w2 w3):Oth g l c w w3 :=
 ⟨k.os.trans h.os,k.tape.trans h.tape,k.output.trans h.output,UU h.size k.size,fun j hj h1 h2 h3=>(k.block j (nL hj h.size) h1 h2 h3).trans (h.block j hj h1 h2 h3)⟩
theorem Oth.then (h:Oth g l c w w2) (k:Below w.heap.size w2 w3):Oth g l c w w3 :=
 ⟨k.os.trans h.os,k.tape.trans h.tape,k.output.trans h.output,UU h.size k.size,fun j hj h1 h2 h3=>(k.block j hj).trans (h.block j hj h1 h2 h3)⟩
theorem ze8 (f:Bs->Bool) (nq:Bs):(fun q'=>if q'=nq then some (Value.bool true) else zft f q')=zft (zdC f nq):=by
 funext q;unfold zft zdC;by_cases h:q=nq
 ·rw [Gz h,Uu h];rfl
 ·rw [Gy h,Uj h];rfl
theorem ParB.other (h:ParB g l c s st w) {m:Nat} (hb:w.grownBy w2 (some m)) (hm:m≠g) (ho:3<m) {st':PS} (e1:st'.tok=st.tok) (e2:st'.nodes=st.nodes) (e3:st'.deep=st.deep) (e4:st'.e=st.e)
  (hl:MapF zbQ w2 l (zft st'.lets)) (hc:MapF zbQ w2 c (zft st'.checks)):ParB g l c s st' w2:=by
 refine⟨?_,hl,hc,h.ord,h.glob.grown ho hb,h.len,by rw [e1];exact h.pos,by rw [e2];exact h.nod,by rw [e3];exact h.dep⟩;rw [hb.block g h.lt (by simp;omega),h.f];unfold zb9;rw [e1,e2,e3,e4]
theorem ParB.setL (h:ParB g l c s st w) (nq:Bs) {K:Wd->Prop} (k:∀ Y,ParB g l c s { st with lets:=zdC st.lets nq } Y->w.grownBy Y (some l)->K Y) :
  SatR ((Instr.mapUpdate 105 (.map (some l)) (zu nq) (.bool true)).run PG w) fun _ w'=>K w':=by
 obtain⟨o,hr,hm⟩:=zaa zj2 Tryz.underlying105 h.lm nq (.bool true);have og:=h.ord;have gr:=zeo w l o;refine SatR.mk hr (k _ (h.other gr (by omega) og.1 rfl rfl rfl rfl (by rw [ze8] at hm;exact hm) (h.cm.same (gr.block c (zah h.cm) (by simp;omega)))) gr)
theorem ParB.setC (h:ParB g l c s st w) (nq:Bs) {K:Wd->Prop} (k:∀ Y,ParB g l c s { st with checks:=zdC st.checks nq } Y->w.grownBy Y (some c)->K Y) :
  SatR ((Instr.mapUpdate 105 (.map (some c)) (zu nq) (.bool true)).run PG w) fun _ w'=>K w':=by
 obtain⟨o,hr,hm⟩:=zaa zj2 Tryz.underlying105 h.cm nq (.bool true);have og:=h.ord;have gr:=zeo w c o;refine SatR.mk hr (k _ (h.other gr (by omega) (by omega) rfl rfl rfl rfl (h.lm.same (gr.block l (zah h.lm) (by simp;omega))) (by rw [ze8] at hm;exact hm)) gr)
structure LinB (w:Wd) (g l c:Nat) (k:Nat) (nq:Bs) (t:Trm) (q:OA) (cap:Nat) (Y:Wd):Prop where
 p:Y.heap[w.heap.size]?=some (.cells #[At0 g] 132 (0,0))
 r:Y.heap[w.heap.size+1]?=some (.cells (zC 0 [] zT none 0).toArray 49 (0,0))
 x:Y.heap[w.heap.size+2]?=some (.cells (zC k nq t q cap).toArray 49 (0,0))
 o:Oth g l c w Y
theorem LinB.grown {k:Nat} {nq:Bs} {t:Trm} {q:OA} {cap m:Nat} {Y Z:Wd} (h:LinB w g l c k nq t q cap Y) (hm:m=g\/m=l\/m=c) (hg:m<w.heap.size) (hb:Y.grownBy Z (some m)):LinB w g l c k nq t q cap Z:=by
 have sm:∀ {j:Nat} {ob:Obj},w.heap.size<=j->Y.heap[j]?=some ob->Z.heap[j]?=some ob:=fun {j ob} hj hk=>(hb.block j (hlt hk) (by simp;omega)).trans hk;refine⟨sm (Ge _) h.p,sm (by omega) h.r,sm (by omega) h.x,h.o.trans ⟨hb.os,hb.tape,hb.output,hb.size,fun j hj h1 h2 h3=>hb.block j hj (by simp;omega)⟩⟩
theorem LinB.below {k:Nat} {nq:Bs} {t:Trm} {q:OA} {cap:Nat} {Y Z:Wd} (h:LinB w g l c k nq t q cap Y) (hb:Bw Y Z):LinB w g l c k nq t q cap Z :=
 ⟨zb hb h.p,zb hb h.r,zb hb h.x,h.o.trans (.of_below hb)⟩
theorem LinB.store {k:Nat} {nq:Bs} {t:Trm} {q:OA} {cap:Nat} {Y:Wd} (h:LinB w g l c k nq t q cap Y) (hY:ParB g l c s st Y) (hg:g<w.heap.size) {k':Nat} {nq':Bs} {t':Trm} {q':OA} {cap':Nat} {K:Wd->Prop}
  {Te:TypeId} {o:Nat} {v:Value} {iT:TI} (hT:TIok PG Te iT) (hv:v.cells.size=iT.size) (ho:o+v.cells.size<=5) (h1:v.cells.toList.all Value.oneCell'=true)
  (e:(zC k nq t q cap).take o++v.cells.toList++(zC k nq t q cap).drop (o+v.cells.size)=zC k' nq' t' q' cap')
  (kk:∀ Z,ParB g l c s st Z->LinB w g l c k' nq' t' q' cap' Z->(∀ j,j≠w.heap.size+2->Z.heap[j]?=Y.heap[j]?)->Z.heap.size=Y.heap.size->K Z) :
  SatR ((storeVar Te ⟨w.heap.size+2,o,none⟩ v).run PG Y) fun _ w'=>K w':=by
 refine jk hT h.x (o:=o) (v:=v) hv (by show o+v.cells.size<=5;exact ho) h1 fun Z fZ gZ sZ=>?_;have sm:∀ j,j≠w.heap.size+2->Z.heap[j]?=Y.heap[j]?:=fun j hj=>by
  by_cases hl:j<Y.heap.size
  ·exact gZ.block j hl (by simp;omega)
  ·rw [Array.getElem?_eq_none (by omega),Array.getElem?_eq_none (by omega)]
 have bZ:Below (g+1) Y Z:=⟨gZ.os,gZ.tape,gZ.output,gZ.size,fun j hj=>sm j (by omega)⟩;have bW:Below w.heap.size Y Z:=⟨gZ.os,gZ.tape,gZ.output,gZ.size,fun j hj=>sm j (by omega)⟩;refine kk Z (hY.upto bZ) ⟨(sm _ (by omega)).trans h.p,(sm _ (by omega)).trans h.r,?_,h.o.then bW⟩ sm sZ;rw [fZ];have:(zC k nq t q cap).toArray.toList=zC k nq t q cap:=rfl;rw [this,e]
theorem LinB.fin {k:Nat} {nq:Bs} {t:Trm} {q:OA} {cap:Nat} {Y:Wd} (h:LinB w g l c k nq t q cap Y) (hY:ParB g l c s st Y) (hg:g<w.heap.size) {R:Option LineD×PS} {ok:Bool} {k':Nat} {nq':Bs} {t':Trm} {q':OA} {cap':Nat} (e1:R.1.isSome=ok) (e2:R.2=st)
  (e3:∀ x,R.1=some x->x=⟨k',nq',t'⟩/\k'<=3/\nq'.length<=8192/\t'.name.length<=8192/\KidsT (fun b=>w.heap.size+2<b) Y q' t'.kids) :
  SatR ((storeVar 49 ⟨w.heap.size+1,0,none⟩ (.agg (zC k' nq' t' q' cap').toArray)).run PG Y) fun _ w'=>∃ us:List Value,us.length=5/\zw w' ⟨w.heap.size+1,0,none⟩ us/\zrh g l c s w R (.returned (j7 [.agg us.toArray,.bool ok])) w':=by
 refine zr (v := .agg (zC k' nq' t' q' cap').toArray) k49 h.r rfl rfl rfl ?_;have b1:=zj (B:=w.heap.size) (Gj _ Y) (Nat.le_succ w.heap.size) (zC k' nq' t' q' cap').toArray;have b2:=zj (B:=g+1) (Gj _ Y) (by omega:g+1<=w.heap.size+1) (zC k' nq' t' q' cap').toArray;refine⟨zC k' nq' t' q' cap',rfl,za (zm h.r),k',nq',t',q',cap',by rw [e1];rfl,fun x hx=>?_,by rw [e2];exact hY.upto b2,h.o.then b1⟩;obtain⟨h1,h2,h3,h4,h5⟩:=e3 x hx;exact⟨h1,h2,h3,h4,(h5.by fun b cs ty fr hb hc=>zo (by omega)).weak fun b hb=>by omega⟩
end
section
variable {g l c:Nat} {s:Bs} {st:PS} {w w2 w3 X:Wd}
theorem ziJ {used:Bs->Bool} {nq:Bs} {st2:PS} (h:jT (zH s) used st=(some nq,st2)) (hp:st.tok.at_+st.tok.text.length<=s.length):nq.length<=s.length:=by
 unfold jT at h
 split at h
 ·cases h
 ·split at h
  ·cases h
  ·rw [<- Ug (Gh h).1];omega
def zxF (g l c:Nat) (s:Bs) (w:Wd) (R:Option LineD×PS) (ok:Bool) (k:Nat) (nq:Bs) (t:Trm) (q:OA) (cap:Nat) (st':PS) (Y:Wd):Prop :=
 ParB g l c s st' Y/\LinB w g l c k nq t q cap Y/\(ok=true->R=zoJ ⟨k,nq,t⟩ st'/\k<=3/\nq.length<=8192/\t.name.length<=8192/\KidsT (fun b=>w.heap.size+2<b) Y q t.kids)/\(ok=false->R=(none,st'))
theorem zsh (many:Nat) (h:ParB g l c s st w):Calls PG 67 #[At0 g,i64 (many:Nat)] w (zrh g l c s w (zca (zH s) 40000 many st)):=by
 refine qa 112 [At0 g,i64 (many:Nat)] (.s .p (.c .p (.s .p (.s .p (.s .p (.s .p (.s .p (.c .p (.c .p .p))))))))) Tryz.func67 ?_;obtain⟨R,hR⟩:=nm (zca (zH s) 40000 many st);rw [<- hR];unfold zca at hR;have hgw:=h.lt;have hlen:=h.len;have hpos:=h.pos;have og:=h.ord;refine⟨Unit,fun _=>⟨[(1,i64 (many:Nat)),(2,At0 w.heap.size),(4,At0 (w.heap.size+1)),(6,At0 (w.heap.size+2))],[]⟩,fun _ Y=>ParB g l c s st Y/\LinB w g l c 0 [] zT none 0 Y,?_,?_⟩
 ·obtain⟨W1,e1⟩:=nm (w.alloc (.cells #[At0 g] 132));have n1:W1.heap.size=w.heap.size+1:=by rw [e1];exact wz _ _
  have f1:W1.heap[w.heap.size]?=some (.cells #[At0 g] 132 (0,0)):=by rw [e1];exact zz w _
  have b1:Bw w W1:=by rw [e1];exact zba _ _
  obtain⟨W2,e2⟩:=nm (W1.alloc (.cells (zC 0 [] zT none 0).toArray 49));have n2:W2.heap.size=w.heap.size+2:=by rw [e2,wz,n1]
  have f2:W2.heap[w.heap.size+1]?=some (.cells (zC 0 [] zT none 0).toArray 49 (0,0)):=by rw [e2,<- n1];exact zz W1 _
  have b2:Bw W1 W2:=by rw [e2];exact zba _ _
  obtain⟨W3,e3⟩:=nm (W2.alloc (.cells (zC 0 [] zT none 0).toArray 49));have f3:W3.heap[w.heap.size+2]?=some (.cells (zC 0 [] zT none 0).toArray 49 (0,0)):=by rw [e3,<- n2];exact zz W2 _
  have b3:Bw W2 W3:=by rw [e3];exact zba _ _
  have b13:=zst b1 (zst b2 b3);refine⟨(),⟨.cons rfl (.cons ?_ (.cons ?_ (.cons ?_ .nil))),rfl⟩,?_⟩
  ·rfl
  ·show some (At0 (w.alloc (.cells #[At0 g] 132)).heap.size)=_;rw [wz]
  ·show some (At0 ((w.alloc (.cells #[At0 g] 132)).alloc (.cells (zC 0 [] zT none 0).toArray 49)).heap.size)=_;rw [wz,wz]
  ·show _/\_;have key:ParB g l c s st W3/\LinB w g l c 0 [] zT none 0 W3:=⟨h.below b13,zb b3 (zb b2 f1),zb b3 f2,f3,.of_below b13⟩;rw [e3,e2,e1] at key;exact key
 rintro _ Y ⟨hY,lY⟩;dsimp only;refine⟨_,zc (za lY.p) (i:=0) rfl,_,zc (za hY.f) (i:=2) rfl,cmo (zkJ st.tok.text Y hY.glob) ?_⟩;rintro e _ ⟨rfl,rfl⟩;have bD:=(Gj Y.heap.size Y).drew;have hD:=hY.below bD;have lD:=lY.below bD;have sz0:w.heap.size+2<Y.heap.size:=hlt lY.x;have bad:∀ n:Int,R=(none,zaN n st)->∀ {Z:Wd},ParB g l c s (zaN n st) Z->Y.drew.grownBy Z (some g)->SatR ((storeVar 49 ⟨w.heap.size+1,0,none⟩ (.agg (zC 0 [] zT none 0).toArray)).run PG Z) fun _ w'=>∃ us:List Value,us.length=5/\zw w' ⟨w.heap.size+1,0,none⟩ us/\zrh g l c s w R (.returned (j7 [.agg us.toArray,.bool false])) w':=by
  intro n hR Z hZ gZ;exact (lD.grown (.inl rfl) hgw gZ).fin hZ hgw (by rw [hR];rfl) (by rw [hR]) (fun x hx=>by rw [hR] at hx;cases hx)
 refine⟨_,zc (za lY.p) (i:=0) rfl,_,zc (za hY.f) (i:=1) rfl,?_⟩;have r4:(st.tok.kind≠3\/zbK st.tok.text ≥ 4)->R=(none,zaN 110 st):=fun hc=>by rw [hR,Gz hc]
 refine biE (fun h1=>?_) fun h1=>?_
 ·have h1:(!decide ((st.tok.kind:Int)=((3:Nat):Int)))=true:=h1;rw [zX] at h1;have hR:=r4 (.inl (by simpa using h1));refine brT (DrawE.treeQ [2,3] (.op 1 (.alt (.op 2 (.op 0 (.op 3 (.op 4 .nil)))) (.op 0 (.op 2 (.op 3 (.op 4 .nil)))))) (by kernel_rfl) ⟨_,zc (za lD.p) (i:=0) rfl,Gp ?_ ?_⟩)
  ·refine cmo (jM hD 110) ?_;rintro e Z ⟨rfl,hZ,gZ⟩;have lZ:=lD.grown (.inl rfl) hgw gZ;exact⟨_,rfl,za lZ.x,hlt lZ.x,bad 110 hR hZ gZ⟩
  ·refine⟨_,rfl,za lD.x,hlt lD.x,cmo (jM hD 110) ?_⟩;rintro e Z ⟨rfl,hZ,gZ⟩;exact bad 110 hR hZ gZ
 have h1:(!decide ((st.tok.kind:Int)=((3:Nat):Int)))=false:=h1;rw [zX] at h1;have h1:st.tok.kind=3:=by simpa using h1
 have hl4:=zqc st.tok.text;refine biE (fun h2=>?_) fun h2=>?_
 ·have h2:zdY st.tok.text<0:=dT h2;have hR:=r4 (.inr (by unfold zdY at h2;split at h2 <;> omega));refine DrawE.treeQ [2,3] (.op 1 (.alt (.op 2 (.op 0 (.op 3 (.op 4 .nil)))) (.op 0 (.op 2 (.op 3 (.op 4 .nil)))))) (by kernel_rfl) ?_;refine⟨_,zc (za lD.p) (i:=0) rfl,?_⟩;refine Gp ?_ ?_
  ·refine cmo (jM hD 110) ?_;rintro e Z ⟨rfl,hZ,gZ⟩;have lZ:=lD.grown (.inl rfl) hgw gZ;exact⟨_,rfl,za lZ.x,hlt lZ.x,bad 110 hR hZ gZ⟩
  ·refine⟨_,rfl,za lD.x,hlt lD.x,cmo (jM hD 110) ?_⟩;rintro e Z ⟨rfl,hZ,gZ⟩;exact bad 110 hR hZ gZ
 have h2:¬ zdY st.tok.text<0:=dF h2;have hk4:zbK st.tok.text<4:=by unfold zdY at h2;split at h2 <;> omega
 have hz:zdY st.tok.text=((zbK st.tok.text:Nat):Int):=by unfold zdY;rw [Gz hk4]
 rw [Gy (by rintro (h | h);exact h h1;omega)] at hR;rw [hz];refine biE (fun h3=>?_) fun h3=>?_
 ·have h3:(40:Int)<=(many:Int):=dT h3;rw [Gz (by omega)] at hR;refine DrawE.treeQ [2,3] (.op 1 (.alt (.op 2 (.op 0 (.op 3 (.op 4 .nil)))) (.op 0 (.op 2 (.op 3 (.op 4 .nil)))))) (by kernel_rfl) ⟨_,zc (za lD.p) (i:=0) rfl,Gp ?_ ?_⟩
  ·refine cmo (jM hD 5) ?_;rintro e Z ⟨rfl,hZ,gZ⟩;have lZ:=lD.grown (.inl rfl) hgw gZ;exact⟨_,rfl,za lZ.x,hlt lZ.x,bad 5 hR hZ gZ⟩
  ·refine⟨_,rfl,za lD.x,hlt lD.x,cmo (jM hD 5) ?_⟩;rintro e Z ⟨rfl,hZ,gZ⟩;exact bad 5 hR hZ gZ
 have h3:¬ (40:Int)<=(many:Int):=dF h3;rw [Gy (by omega)] at hR;clear bad r4 hD lD bD;obtain⟨st1,hs1⟩:=nm (nx s st);obtain⟨k,hkk⟩:=nm (zbK st.tok.text);rw [show zaM (zH s) st=st1 from hs1.symm,<- hkk,show st.lets=st1.lets by rw [hs1];rfl] at hR;rw [<- hkk] at hk4 ⊢;refine⟨_,zc (za lY.p) (i:=0) rfl,cmo (zbO hY) ?_⟩;rw [show nx s st=st1 from hs1.symm];rintro e Z ⟨rfl,hZ,gZ⟩;have lZ:=lY.grown (.inl rfl) hgw gZ;refine⟨(k:Int),zjU (by omega),lZ.store hZ hgw (k':=k) (nq':=[]) (t':=zT) (q':=none) (cap':=0) (o:=0) (v:=u8n k) k5 rfl (by show 0+1<=5;decide) rfl rfl fun V hV lV _ _=>⟨Unit,fun _=>⟨[(2,At0 w.heap.size),(4,At0 (w.heap.size+1)),(6,At0 (w.heap.size+2))],[]⟩,fun _ Y=>ParB g l c s st1 Y/\LinB w g l c k [] zT none 0 Y,⟨(),(cvE rfl rfl),hV,lV⟩,?_⟩⟩;clear hV lV hZ lZ gZ hY lY sz0 h2 hz h1 hpos h;rintro _ Y ⟨hY,lY⟩;dsimp only;refine⟨Bool×Nat×Bs×Trm×OA×Nat×PS,fun y=>⟨[(2,At0 w.heap.size),(4,At0 (w.heap.size+1)),(6,At0 (w.heap.size+2)),(8,.bool y.1)],[]⟩,fun y Y=>zxF g l c s w R y.1 y.2.1 y.2.2.1 y.2.2.2.1 y.2.2.2.2.1 y.2.2.2.2.2.1 y.2.2.2.2.2.2 Y,?_,?_⟩
 ·have hsz:w.heap.size+2<Y.heap.size:=hlt lY.x;have hpos:=hY.pos;refine⟨_,zc (za lY.x) (i:=0) rfl,biE (fun h4=>?_) fun h4=>?_⟩
  ·
   have h4:(k:Int)=0:=dT h4;obtain rfl:k=0:=by omega
   rw [Gz rfl] at hR;refine⟨_,zc (za lY.p) (i:=0) rfl,cmo (zl9 hY lY.p) ?_⟩;rintro e Z ⟨rfl,hZ,gZ⟩;rcases hnm:jT (zH s) (fun t=>zal t||st1.lets t) st1 with ⟨on,st2⟩;rw [hnm] at hR hZ;dsimp only at hZ hR ⊢;have lZ:=lY.grown (.inl rfl) hgw gZ;refine lZ.store hZ hgw (k':=0) (nq':=on.getD []) (t':=zT) (q':=none) (cap':=0) (o:=1) (v:=zu (on.getD [])) k9 rfl (by show 1+1<=5;decide) rfl rfl fun V hV lV _ sV=>?_
   cases on with
   | none =>
    exact brF (brF ⟨(false,0,[],zT,none,0,st2),(cvE rfl rfl),hV,lV,fun h=>GA h Ku,fun _=>hR⟩)
   | some nq =>
    have hnl:=ziJ hnm hpos;dsimp only at hR;refine brT ⟨_,zc (za lV.p) (i:=0) rfl,cmo (zcY hV 6 [61]) ?_⟩;rintro e U ⟨rfl,hU,gU⟩;rcases hex:qj (zH s) 6 [61] st2 with ⟨oe,st3⟩;rw [hex] at hR hU;dsimp only at hU hR ⊢;have lU:=lV.grown (.inl rfl) hgw gU
    cases oe with
    | false =>
     exact brF ⟨(false,0,nq,zT,none,0,st3),(cvE rfl rfl),hU,lU,fun h=>GA h Ku,fun _=>hR⟩
    | true =>
     dsimp only at hR;refine brT ?_;have su:w.heap.size+2<U.heap.size:=hlt lU.x;refine⟨_,zc (za lU.p) (i:=0) rfl,cmo (zj0 40000 1 st3 U (by decide) hU (by have:=hU.len;omega)) ?_⟩;rintro e T ⟨t,q,cap,rfl,hk,hT,gT⟩;rcases htm:termP (zH s) 40000 1 st3 with ⟨ot,st4⟩;rw [htm] at hk hT hR;dsimp only at hk hT hR ⊢;have lT:=lU.grown (.inl rfl) hgw gT;refine lT.store hT hgw (k':=0) (nq':=nq) (t':=t) (q':=q) (cap':=cap) (o:=2) (v := .agg (zf t q cap).toArray) k24 rfl (by show 2+3<=5;decide) rfl rfl fun P hP lP oP sP=>DrawE.ord [6] [0,1,2,3,4,5,6] (by kernel_rfl) ?_;have bE:=(Gj P.heap.size P).drew;have hE:=hP.below bE;have lE:=lP.below bE;refine⟨_,zc (za lE.p) (i:=0) rfl,_,zc (za hE.f) (i:=4) rfl,_,zc (za lE.x) (i:=1) rfl,hE.setL nq fun N hN gN=>?_⟩;have lN:=lE.grown (.inr (.inl rfl)) (by omega) gN;refine⟨(ot.isSome,0,nq,t,q,cap,{ st4 with lets:=zdC st4.lets nq }),(cvE rfl rfl),hN,lN,fun ho=>?_,fun ho=>?_⟩
     ·cases ot with
      | none=>cases ho
      | some t1 =>
       obtain⟨e1,e2,e3⟩:=hk t1 rfl;refine⟨by rw [hR,<- e1],Gg _,by show nq.length<=8192;omega,e2,?_⟩;have k1:KidsT (fun b=>U.heap.size<=b/\b<T.heap.size) T q t.kids:=e3.there;refine (k1.by fun b cs ty fr hb hc=>?_).weak fun b hb=>by omega
       have hlw:=(zah hT.lm);rw [gN.block b (by have:=bE.size;omega) (by simp;omega),bE.block b (by omega),oP b (by omega)]
     ·cases ot with
      | none=>exact hR
      | some t1=>cases ho
  ·
   have h4:¬ (k:Int)=0:=dF h4;rw [Gy (by omega)] at hR;refine⟨_,zc (za lY.p) (i:=0) rfl,cmo (zj0 40000 1 st1 Y (by decide) hY (by have:=hY.len;omega)) ?_⟩;rintro e T ⟨t,q,cap,rfl,hk,hT,gT⟩;rcases htm:termP (zH s) 40000 1 st1 with ⟨ot,st2⟩;rw [htm] at hk hT hR;dsimp only at hk hT hR ⊢;have lT:=lY.grown (.inl rfl) hgw gT;refine lT.store hT hgw (k':=k) (nq':=[]) (t':=t) (q':=q) (cap':=cap) (o:=2) (v := .agg (zf t q cap).toArray) k24 rfl (by show 2+3<=5;decide) rfl rfl fun P hP lP oP sP=>?_
   cases ot with
   | none =>
    exact brF (brF ⟨(false,k,[],t,q,cap,st2),(cvE rfl rfl),hP,lP,fun h=>GA h Ku,fun _=>hR⟩)
   | some t1 =>
    obtain⟨e1,e2,e3⟩:=hk t1 rfl;subst e1;have k1:KidsT (fun b=>Y.heap.size<=b/\b<T.heap.size) T q t1.kids:=e3.there;have sT:=gT.size;dsimp only at hR;refine brT ⟨_,zc (za lP.p) (i:=0) rfl,cmo (zcY hP 3 [97,115]) ?_⟩;rintro e U ⟨rfl,hU,gU⟩;rcases hex:qj (zH s) 3 [97,115] st2 with ⟨oe,st3⟩;rw [hex] at hR hU;dsimp only at hU hR ⊢;have lU:=lP.grown (.inl rfl) hgw gU
    cases oe with
    | false =>
     exact brF ⟨(false,k,[],t1,q,cap,st3),(cvE rfl rfl),hU,lU,fun h=>GA h Ku,fun _=>hR⟩
    | true =>
     dsimp only at hR;refine brT ?_;have hpu:=hU.pos;refine⟨_,zc (za lU.p) (i:=0) rfl,cmo (zl8 hU lU.p) ?_⟩;rintro e Z ⟨rfl,hZ,gZ⟩;rcases hnm:jT (zH s) st3.checks st3 with ⟨on,st4⟩;rw [hnm] at hR hZ;dsimp only at hZ hR ⊢;have lZ:=lU.grown (.inl rfl) hgw gZ;refine lZ.store hZ hgw (k':=k) (nq':=on.getD []) (t':=t1) (q':=q) (cap':=cap) (o:=1) (v:=zu (on.getD [])) k9 rfl (by show 1+1<=5;decide) rfl rfl fun V hV lV oV sV=>DrawE.ord [6] [0,1,2,3,4,5,6] (by kernel_rfl) ?_;have bE:=(Gj V.heap.size V).drew;have hE:=hV.below bE;have lE:=lV.below bE;refine⟨_,zc (za lE.p) (i:=0) rfl,_,zc (za hE.f) (i:=5) rfl,_,zc (za lE.x) (i:=1) rfl,hE.setC (on.getD []) fun N hN gN=>?_⟩;have lN:=lE.grown (.inr (.inr rfl)) (by omega) gN;refine⟨(on.isSome,k,on.getD [],t1,q,cap,{ st4 with checks:=zdC st4.checks (on.getD []) }),(cvE rfl rfl),hN,lN,fun ho=>?_,fun ho=>?_⟩
     ·cases on with
      | none=>cases ho
      | some nq =>
       have hnl:=ziJ hnm hpu;refine⟨by rw [hR];rfl,by show k<=3;omega,by show nq.length<=8192;omega,e2,?_⟩;refine (k1.by fun b cs ty fr hb hc=>?_).weak fun b hb=>by omega
       have hcw:=(zah hT.cm);have sU:=gU.size;have sZ:=gZ.size;rw [gN.block b (by have:=bE.size;omega) (by simp;omega),bE.block b (by omega),oV b (by omega),gZ.block b (by omega) (by simp;omega),gU.block b (by omega) (by simp;omega),oP b (by omega)]
     ·cases on with
      | none=>exact hR
      | some nq=>cases ho
 clear hY lY hR hkk hk4 h3 hl4 hs1;rintro⟨ok,k,nq,t,q,cap,st2⟩ Y ⟨hY,lY,hok,hno⟩;dsimp only at hY lY hok hno ⊢;have done:∀ {ok2:Bool} {st3:PS} {Z:Wd},ParB g l c s st3 Z->LinB w g l c k nq t q cap Z->R.1.isSome=ok2->R.2=st3->(∀ x,R.1=some x->x=⟨k,nq,t⟩/\k<=3/\nq.length<=8192/\t.name.length<=8192/\KidsT (fun b=>w.heap.size+2<b) Z q t.kids) ->
   ∃ us:List Value,us.length=5/\zw Z ⟨w.heap.size+2,0,none⟩ us/\w.heap.size+2<Z.heap.size/\SatR ((storeVar 49 ⟨w.heap.size+1,0,none⟩ (.agg us.toArray)).run PG Z) fun _ w'=>∃ us:List Value,us.length=5/\zw w' ⟨w.heap.size+1,0,none⟩ us/\zrh g l c s w R (.returned (j7 [.agg us.toArray,.bool ok2])) w':=by
  intro ok2 st3 Z hZ lZ e1 e2 e3;exact⟨_,rfl,za lZ.x,hlt lZ.x,lZ.fin hZ hgw e1 e2 e3⟩
 cases ok with
 | false =>
  have hR:=hno rfl;exact brF (brF (brF (done hY lY (by rw [hR];rfl) (by rw [hR]) (fun x hx=>by rw [hR] at hx;cases hx))))
 | true =>
  obtain⟨hR,hk3,hn,htn,hkd⟩:=hok rfl;unfold zoJ at hR;refine brT ⟨_,zc (za lY.p) (i:=0) rfl,_,zc (za hY.f) (i:=1) rfl,?_⟩;have good:¬ (st2.tok.kind≠2/\st2.tok.kind≠1)->∃ us:List Value,us.length=5/\zw Y ⟨w.heap.size+2,0,none⟩ us/\w.heap.size+2<Y.heap.size/\SatR ((storeVar 49 ⟨w.heap.size+1,0,none⟩ (.agg us.toArray)).run PG Y) fun _ w'=>∃ us:List Value,us.length=5/\zw w' ⟨w.heap.size+1,0,none⟩ us/\zrh g l c s w R (.returned (j7 [.agg us.toArray,.bool true])) w':=fun hc=>by
   rw [Gy hc] at hR;exact done hY lY (by rw [hR];rfl) (by rw [hR]) (fun x hx=>by rw [hR] at hx;exact⟨(Ug hx).symm,hk3,hn,htn,hkd⟩)
  refine biE (fun h1=>?_) fun h1=>?_
  ·have h1:(!decide ((st2.tok.kind:Int)=((2:Nat):Int)))=true:=h1;rw [zX] at h1;have h1:st2.tok.kind≠2:=by simpa using h1
   refine⟨_,zc (za lY.p) (i:=0) rfl,_,zc (za hY.f) (i:=1) rfl,biE (fun h2=>?_) fun h2=>?_⟩
   ·have h2:(!decide ((st2.tok.kind:Int)=((1:Nat):Int)))=true:=h2;rw [zX] at h2;have h2:st2.tok.kind≠1:=(by simpa using h2);rw [Gz ⟨h1,h2⟩] at hR;refine⟨_,zc (za lY.p) (i:=0) rfl,cmo (jM hY 110) ?_⟩;rintro e Z ⟨rfl,hZ,gZ⟩;exact done hZ (lY.grown (.inl rfl) hgw gZ) (by rw [hR];rfl) (by rw [hR]) (fun x hx=>by rw [hR] at hx;cases hx)
   ·have h2:(!decide ((st2.tok.kind:Int)=((1:Nat):Int)))=false:=h2;rw [zX] at h2;have h2:st2.tok.kind=1:=(by simpa using h2);exact good fun h=>h.2 h2
  ·have h1:(!decide ((st2.tok.kind:Int)=((2:Nat):Int)))=false:=h1;rw [zX] at h1;have h1:st2.tok.kind=2:=by simpa using h1
   exact brF (good fun h=>h.1 h1)
end
abbrev zdF:=LineD×OA×Nat
def zkK:Enc zdF:=⟨fun x=>zC x.1.kind x.1.name x.1.term x.2.1 x.2.2,5,fun _=>rfl,by decide,fun a u hu=>by
 simp only [zC,zf,UG,Qv,Gu] at hu;rcases hu with rfl | rfl | rfl | rfl | rfl <;> rfl⟩
def LinK (Q:Nat->Prop) (w:Wd) (rows:List zdF):Prop:=∀ x∈rows,x.1.kind<=255/\x.1.name.length<=140737488351232/\x.1.term.name.length<=140737488351232/\KidsT Q w x.2.1 x.1.term.kids
def LinsM (Q:Nat->Prop) (w:Wd) (p:OA) (ls:List LineD):Prop:=∃ rows:List zdF,rows.map (·.1)=ls/\SlR zkK w p rows/\LinK Q w rows/\(rows≠[]->∀ a,p=some a->Q a.block)
def zwT (r:Option (List LineD)×Nat×Int) (w:Wd) (e:Ending) (w':Wd):Prop :=
 (∃ (p:OA) (cap:Nat),e = .returned (.tuple #[.agg #[.slice p (r.1.getD []).length cap],i64 (r.2.1:Nat),i64 r.2.2])/\(r.1.getD []).length<=40/\LinsM (fun b=>w.heap.size<=b) w' p (r.1.getD []))/\Bw w w'
section
variable {g l c B:Nat} {s:Bs} {st:PS} {w w2 w3 X:Wd}
theorem Oth.low (h:Oth g l c w w2) (h1:B<=g) (h2:B<=l) (h3:B<=c) (h4:B<=w.heap.size):Below B w w2:=⟨h.os,h.tape,h.output,h.size,fun j hj=>h.block j (by omega) (by omega) (by omega) (by omega)⟩
theorem LinK.by {Q:Nat->Prop} {rows:List zdF} (hs:∀ (g:Nat) (cs:Array Value) (t:TypeId) (fr:Nat×Nat),Q g->w.heap[g]?=some (.cells cs t fr)->w2.heap[g]?=w.heap[g]?) (h:LinK Q w rows):LinK Q w2 rows :=
 fun x hx=>⟨(h x hx).1,(h x hx).2.1,(h x hx).2.2.1,(h x hx).2.2.2.by hs⟩
theorem LinK.weak {Q Q':Nat->Prop} {rows:List zdF} (h:LinK Q w rows) (hb:∀ b,Q b->Q' b):LinK Q' w rows :=
 fun x hx=>⟨(h x hx).1,(h x hx).2.1,(h x hx).2.2.1,(h x hx).2.2.2.weak hb⟩
theorem LinK.there {Q:Nat->Prop} {rows:List zdF} (h:LinK Q w rows):LinK (fun b=>Q b/\b<w.heap.size) w rows :=
 fun x hx=>⟨(h x hx).1,(h x hx).2.1,(h x hx).2.2.1,(h x hx).2.2.2.there⟩
theorem LinsM.by {Q:Nat->Prop} {p:OA} {ls:List LineD} (hs:∀ (g:Nat) (cs:Array Value) (t:TypeId) (fr:Nat×Nat),Q g->w.heap[g]?=some (.cells cs t fr)->w2.heap[g]?=w.heap[g]?) (h:LinsM Q w p ls):LinsM Q w2 p ls:=by
 obtain⟨rows,e1,e2,e3,e4⟩:=h;refine⟨rows,e1,?_,e3.by hs,e4⟩;rcases e2 with e2 | ⟨b,o,hp,hb,hc⟩
 ·exact .inl e2
 ·by_cases h0:rows=[]
  ·exact .inl h0
  ·have hl:0<rows.length:=List.length_pos_iff.2 h0;have hq:=e4 h0 _ hp;have h1:=hc 0 hl 0 _ rfl;unfold World.cell? at h1
   split at h1
   ·rename_i cs t fr hblk;have hblk:w.heap[b]?=some (.cells cs t fr):=hblk;have sm:=hs b cs t fr hq hblk;exact .inr ⟨b,o,hp,hlt (sm.trans hblk),fun i hi=>zQ sm (hc i hi)⟩
   ·cases h1
theorem LinsM.weak {Q Q':Nat->Prop} {p:OA} {ls:List LineD} (h:LinsM Q w p ls) (hb:∀ b,Q b->Q' b):LinsM Q' w p ls:=by
 obtain⟨rows,e1,e2,e3,e4⟩:=h;exact⟨rows,e1,e2,e3.weak hb,fun h0 a ha=>hb _ (e4 h0 a ha)⟩
theorem LinsM.below {Q:Nat->Prop} {p:OA} {ls:List LineD} (h:LinsM Q w p ls) (b:Bw w w2):LinsM Q w2 p ls:=h.by fun g cs t fr _ hc=>b.block g (hlt hc)
theorem LinsM.all {Q:Nat->Prop} {p:OA} {ls:List LineD} (h:LinsM Q w p ls):LinsM (fun _=>True) w p ls:=h.weak fun _ _=>trivial
theorem LinK.nil {Q:Nat->Prop}:LinK Q w []:=fun x hx=>by cases hx
theorem LinK.snoc {Q:Nat->Prop} {rows:List zdF} {x:zdF} (h:LinK Q w rows) (hx:LinK Q w [x]):LinK Q w (rows++[x]):=fun y hy=>by
 rcases QU.1 hy with hy | hy
 ·exact h y hy
 ·exact hx y hy
theorem zjO (hg:GlobK w) (s:Bs) (hs:s.length<=140737488351232):Calls PG 27 #[zu s] w (zwT (qc s) w):=by
 refine qa 61 [zu s] (.c .p (.s .p (.s .p (.c .p .p)))) Tryz.func27 ?_;obtain⟨R,hR⟩:=nm (qc s);rw [<- hR];unfold qc at hR;have hgl:=hg.lt;refine⟨Unit,fun _=>⟨[(0,zu s),(2,At0 w.heap.size)],[]⟩,fun _ X=>X.heap[w.heap.size]?=some (.cells #[.slice none 0 0] 47 (0,0))/\Bw w X/\X.heap.size=w.heap.size+1,⟨(),(cvE rfl rfl),zz w _,zba _ _,wz _ _⟩,?_⟩;rintro _ W1 ⟨f1,b1,n1⟩;refine biE (fun h1=>?_) fun h1=>?_
 ·have h1:(8192:Int)<(s.length:Int):=dT h1;rw [Gz (by omega)] at hR;exact⟨[.slice none 0 0],rfl,zr (v := .agg #[.slice none 0 0]) k47 f1 rfl rfl rfl ⟨[.slice none 0 0],rfl,za (zm f1),⟨none,0,by rw [hR];rfl,by rw [hR];exact Gg _,[],by rw [hR];rfl,.nil,.nil,fun h=>GA rfl h⟩,zj b1 (Ge _) _⟩⟩
 have h1:¬ (8192:Int)<(s.length:Int):=dF h1;have hlen:s.length<=8192:=by omega
 rw [Gy (by omega)] at hR;refine⟨Unit,fun _=>⟨[(2,At0 w.heap.size),(5,At0 (w.heap.size+1)),(6,At0 (w.heap.size+4))],[]⟩,fun _ Y=>ParB (w.heap.size+4) (w.heap.size+2) (w.heap.size+3) s ⟨⟨0,[],0⟩,fun _=>false,fun _=>false,0,0,0⟩ Y/\Y.heap[w.heap.size]?=some (.cells #[.slice none 0 0] 47 (0,0))/\Y.heap[w.heap.size+1]?=some (.cells #[.slice none 0 0] 47 (0,0))/\Bw w Y,?_,?_⟩
 ·obtain⟨W2,e2⟩:=nm (W1.alloc (.cells #[.slice none 0 0] 47));have n2:W2.heap.size=w.heap.size+2:=by rw [e2,wz,n1]
  have f2:W2.heap[w.heap.size+1]?=some (.cells #[.slice none 0 0] 47 (0,0)):=by rw [e2,<- n1];exact zz W1 _
  have b2:Bw W1 W2:=by rw [e2];exact zba _ _
  rw [<- e2,<- n1];refine⟨Value.map (some W2.heap.size),W2.alloc (.map #[] 0),rfl,?_⟩;have m3:MapF (key:=zbQ) (W2.alloc (.map #[] 0)) W2.heap.size (fun (_:Bs)=>none):=MapF.new;obtain⟨W3,e3⟩:=nm (W2.alloc (.map #[] 0));have n3:W3.heap.size=w.heap.size+3:=by rw [e3,wz,n2]
  have b3:Bw W2 W3:=by rw [e3];exact zba _ _
  rw [<- e3] at m3 ⊢;refine⟨Value.map (some W3.heap.size),W3.alloc (.map #[] 0),rfl,?_⟩;have m4:MapF (key:=zbQ) (W3.alloc (.map #[] 0)) W3.heap.size (fun (_:Bs)=>none):=MapF.new;obtain⟨W4,e4⟩:=nm (W3.alloc (.map #[] 0));have n4:W4.heap.size=w.heap.size+4:=by rw [e4,wz,n3]
  have b4:Bw W3 W4:=by rw [e4];exact zba _ _
  rw [<- e4] at m4 ⊢;refine⟨zb9 s W2.heap.size W3.heap.size ⟨⟨0,[],0⟩,fun _=>false,fun _=>false,0,0,0⟩,rfl,?_⟩;have f5:=zz W4 (.cells (zb9 s W2.heap.size W3.heap.size ⟨⟨0,[],0⟩,fun _=>false,fun _=>false,0,0,0⟩).toArray 136);have b5:=zba W4 (.cells (zb9 s W2.heap.size W3.heap.size ⟨⟨0,[],0⟩,fun _=>false,fun _=>false,0,0,0⟩).toArray 136);refine⟨(),⟨.cons rfl (.cons rfl (.cons ?_ .nil)),rfl⟩,?_⟩
  ·show some (At0 W4.heap.size)=_;rw [n4]
  rw [n2,n3] at f5 b5;show _/\_;rw [n2,n3];rw [n4] at f5;have bAll:=zst b1 (zst b2 (zst b3 (zst b4 b5)));have em:(fun (_:Bs)=>(none:Option Value))=zft (fun _=>false):=rfl;rw [em,n2] at m3;rw [em,n3] at m4;refine⟨⟨f5,?_,?_,⟨by omega,by omega,by omega⟩,hg.below bAll,hlen,Gg _,Gg _,Gg _⟩,?_,?_,bAll⟩
  ·exact (m3.below b4).below b5
  ·exact m4.below b5
  ·exact zb b5 (zb b4 (zb b3 (zb b2 f1)))
  ·rw [<- n1] at f2;exact zb b5 (zb b4 (zb b3 f2))
 clear f1 b1 n1 W1;rintro _ Y ⟨hY,fr,fc,bY⟩;dsimp only;refine cmo (zbO hY) ?_;have es:nx s ⟨⟨0,[],0⟩,fun _=>false,fun _=>false,0,0,0⟩=zi3 s:=rfl;rw [es];rintro e Z ⟨rfl,hZ,gZ⟩;have frZ:=(gZ.block _ (hlt fr) (by simp)).trans fr;have fcZ:=(gZ.block _ (hlt fc) (by simp)).trans fc;have bZ:Bw w Z:=bY.trans (zq gZ bY.size (by omega));refine⟨List zdF×OA×Nat×PS×Nat,fun y=>⟨[(2,At0 w.heap.size),(5,At0 (w.heap.size+1)),(6,At0 (w.heap.size+4))],[]⟩,
  fun y Y=>ParB (w.heap.size+4) (w.heap.size+2) (w.heap.size+3) s y.2.2.2.1 Y/\Y.heap[w.heap.size]?=some (.cells #[.slice none 0 0] 47 (0,0))/\Y.heap[w.heap.size+1]?=some (.cells #[.slice y.2.1 y.1.length y.2.2.1] 47 (0,0))/\Bw w Y /\
   OwnS zkK 49 (w.heap.size+5) Y y.2.1 y.2.2.1 y.1/\LinK (fun b=>w.heap.size+4<b/\∀ a,y.2.1=some a->a.block≠b) Y y.1/\y.1.length<=40/\(∃ i,y.2.2.2.1.tok=zH s i) /\
   R=zhv (zH s) 40000 y.2.2.2.2 (y.1.map (·.1)) y.2.2.2.1/\s.length-y.2.2.2.1.tok.at_+1<=y.2.2.2.2,
  fun y=>y.2.2.2.2,([],none,0,zi3 s,10000),(cvE rfl rfl),?_,?_⟩
 ·exact⟨hZ,frZ,fcZ,bZ,.nil,.nil,Gg _,⟨0,rfl⟩,hR,by show s.length-(zi3 s).tok.at_+1<=10000;omega⟩
 clear hZ frZ fcZ bZ gZ hY fr fc bY es hR Z Y;rintro⟨rows,p,cap,st,n⟩ Y ⟨hY,fr,fc,bY,ho,hk,h40,⟨i,hi⟩,hR,hn⟩;dsimp only at hY fc ho hk h40 hi hR hn ⊢;obtain⟨n',rfl⟩:∃ n',n=n'+1:=⟨n-1,by omega⟩;rw [zhv] at hR;have sY:w.heap.size+4<Y.heap.size:=hY.lt;have hps:=hY.pos;refine⟨_,zc (za hY.f) (i:=1) rfl,biE (fun h2=>?_) fun h2=>?_⟩
 ·have h2:(!decide ((st.tok.kind:Int)=((1:Nat):Int)))=true:=h2;rw [zX] at h2;have h2:st.tok.kind≠1:=by simpa using h2
  rw [Gy h2] at hR;refine⟨_,zc (za hY.f) (i:=1) rfl,biE (fun h3=>?_) fun h3=>?_⟩
  ·
   have h3:st.tok.kind=2:=dT ((zX (b:=2)).symm.trans h3);rw [Gz h3] at hR;have ht:1<=st.tok.text.length:=by rw [hi] at h3 ⊢;exact zn5 h3
   refine cmo (zbO hY) ?_;rintro e Z ⟨rfl,hZ,gZ⟩;have hx:=zkv s st;refine⟨(rows,p,cap,nx s st,n'),(cvE rfl rfl),⟨hZ,(gZ.block _ (hlt fr) (by simp)).trans fr,(gZ.block _ (hlt fc) (by simp)).trans fc,bY.trans (zq gZ bY.size (by omega)),?_,?_,h40,⟨_,rfl⟩,hR,?_⟩,QA _⟩
   ·exact ho.kept gZ fun gg hg e=>by have h5:w.heap.size+5<=gg:=(zA ho hg).1;simp at e;omega
   ·exact (hk.there.by fun b cs ty fr hb hc=>gZ.block b hb.2 (by simp;omega)).weak fun b hb=>hb.1
   ·have:(nx s st).tok.at_=(zaM (zH s) st).tok.at_:=rfl;dsimp only;omega
  ·
   have h3:st.tok.kind≠2:=dF ((zX (b:=2)).symm.trans h3);rw [Gy h3] at hR;refine⟨_,zc (za fc) (i:=0) rfl,cmo (zsh rows.length hY) ?_⟩;rintro e Z ⟨k,nq,t,q,cp,rfl,hl,hZ,oZ⟩;have hm:=zsa (s:=s) 40000 rows.length st;have hon:∀ (x:LineD) (st2:PS),zca (zH s) 40000 rows.length st=(some x,st2)->st.tok.at_+1<=st2.tok.at_:=fun x st2=>zsg;have hmy:∀ (x:LineD) (st2:PS),zca (zH s) 40000 rows.length st=(some x,st2)->rows.length<40:=fun x st2=>zox;rw [QQ] at hR;rcases hln:zca (zH s) 40000 rows.length st with ⟨r1,st2⟩;rw [hln] at hl hZ hm hR hon hmy;dsimp only at hl hZ hm hR hon hmy ⊢;have bZ:Bw w Z:=bY.trans (oZ.low (by omega) (by omega) (by omega) (by omega));have keep:∀ {j:Nat} {o:Obj},Y.heap[j]?=some o->j≠w.heap.size+4->j≠w.heap.size+2->j≠w.heap.size+3->Z.heap[j]?=some o:=fun {j o} h h1 h2 h3=>(oZ.block j (hlt h) h1 h2 h3).trans h;have frZ:=keep fr (by omega) (by omega) (by omega);have fcZ:=keep fc (by omega) (by omega) (by omega);have sZ:=oZ.size;refine zn (X:=Z) (v := .agg (zC k nq t q cp).toArray) k49 rfl rfl rfl fun U hbU fU sU=>?_;have hU:=hZ.below hbU;have bU:=zst bZ hbU;have frU:=zb hbU frZ;have fcU:=zb hbU fcZ
   cases r1 with
   | none =>
    refine brT ?_;have bE:=(Gj U.heap.size U).drew;have hE:=hU.below bE;have fE:=zb bE frU;have hE2:(U.drew.setRow w.heap.size #[.slice none 0 0]).heap[w.heap.size+4]?=some (.cells (zb9 s (w.heap.size+2) (w.heap.size+3) st2).toArray 136 (0,0)):=(zo (by omega)).trans hE.f;have done:∃ us:List Value,us.length=1/\zw (U.drew.setRow w.heap.size #[.slice none 0 0]) ⟨w.heap.size,0,none⟩ us/\zwT R w (.returned (j7 [.agg us.toArray,i64 (st2.tok.at_:Nat),i64 st2.e])) (U.drew.setRow w.heap.size #[.slice none 0 0]) :=
     ⟨[.slice none 0 0],rfl,za (zm fE),⟨none,0,by rw [hR];rfl,by rw [hR];exact Gg _,[],by rw [hR];rfl,.nil,.nil,fun h=>GA rfl h⟩,zj ((zst bU bE)) (Ge _) _⟩
    refine DrawE.treeR [10] (.op 0 (.op 1 (.op 2 (.op 3 (.op 4 (.op 6 (.op 7 (.op 8 (.alt (.op 10 (.alt (.op 5 (.op 9 (.op 11 (.op 12 (.nil))))) (.op 9 (.op 5 (.op 11 (.op 12 (.nil))))))) (.alt (.op 5 (.alt (.op 10 (.op 9 (.op 11 (.op 12 (.nil))))) (.op 9 (.op 10 (.op 11 (.op 12 (.nil))))))) (.op 9 (.alt (.op 10 (.op 5 (.op 11 (.op 12 (.nil))))) (.op 5 (.op 10 (.op 11 (.op 12 (.nil))))))))))))))))) (by kernel_rfl) ⟨[.slice none 0 0],rfl,Gp ?_ (Gp ?_ ?_)⟩
    ·refine zr (v := .agg #[.slice none 0 0]) k47 fE rfl rfl rfl (Gp ?_ ?_)
     ·exact⟨_,zc (za hE2) (i:=3) rfl,_,zc (za hE2) (i:=8) rfl,done⟩
     ·exact⟨_,zc (za hE2) (i:=8) rfl,_,zc (za hE2) (i:=3) rfl,done⟩
    ·refine⟨_,zc (za hE.f) (i:=3) rfl,Gp ?_ ?_⟩
     ·exact zr (v := .agg #[.slice none 0 0]) k47 fE rfl rfl rfl ⟨_,zc (za hE2) (i:=8) rfl,done⟩
     ·exact⟨_,zc (za hE.f) (i:=8) rfl,zr (v := .agg #[.slice none 0 0]) k47 fE rfl rfl rfl done⟩
    ·refine⟨_,zc (za hE.f) (i:=8) rfl,Gp ?_ ?_⟩
     ·exact zr (v := .agg #[.slice none 0 0]) k47 fE rfl rfl rfl ⟨_,zc (za hE2) (i:=3) rfl,done⟩
     ·exact⟨_,zc (za hE.f) (i:=3) rfl,zr (v := .agg #[.slice none 0 0]) k47 fE rfl rfl rfl done⟩
   | some x =>
    obtain⟨rfl,hk3,hnl,htl,hkd⟩:=hl x rfl;refine brF ⟨_,zc (za fcU) (i:=0) rfl,_,rfl,za fU,hlt fU,⟨by decide,by decide,rfl⟩,zC k nq t q cp,rfl,?_⟩;obtain⟨V,hV⟩:=nm (U.alloc (.cells (zC k nq t q cp).toArray 49));have hbV:Bw U V:=(by rw [hV];exact zba _ _);have sV:V.heap.size=U.heap.size+1:=(by rw [hV];exact wz _ _);have cV:zw V ⟨U.heap.size,0,none⟩ ([((⟨k,nq,t⟩,q,cp):zdF)].flatMap zkK.enc):=(by rw [hV];exact qH zkK ((⟨k,nq,t⟩,q,cp):zdF));have bV:=zst bU hbV;have hVp:=hU.below hbV;have hoV:OwnS zkK 49 (w.heap.size+5) V p cap rows:=((ho.same fun a ha=>oZ.block a.block (zA ho ha).2.1 (by have:=(zA ho ha).1;omega) (by have:=(zA ho ha).1;omega) (by have:=(zA ho ha).1;omega)).below hbU).below hbV;rw [<- hV];refine jr (E:=zkK) (news:=[((⟨k,nq,t⟩,q,cp):zdF)]) (m:=1) Tryz.underlying45 k49 rfl rfl rfl hoV rfl cV (by omega) (by omega) (by show (rows.length+1)*72<=140737488355328;omega) fun p2 c2 T hoT gT bT hat=>?_;have ownb:∀ {j:Nat},j<w.heap.size+5->(Value.slice p rows.length cap).ownBlock≠some j:=fun {j} hj e=>by
     have:=(QF hoV j e).1;omega
    have tk:∀ {j:Nat} {o:Obj},V.heap[j]?=some o->j<w.heap.size+5->T.heap[j]?=some o:=fun {j o} h hj=>(gT.block j (hlt h) (ownb hj).symm).trans h;have hT:ParB (w.heap.size+4) (w.heap.size+2) (w.heap.size+3) s st2 T:=hVp.upto ⟨bT.os,bT.tape,bT.output,bT.size,fun j hj=>gT.block j (by omega) (ownb (by omega)).symm⟩;have fcT:=tk (zb hbV fcU) (by omega);have frT:=tk (zb hbV frU) (by omega);refine zr (v := .slice p2 (rows++[((⟨k,nq,t⟩,q,cp):zdF)]).length c2) k45 fcT rfl rfl rfl ?_;have bS:=zj (B:=w.heap.size) (Gj _ T) (Nat.le_succ w.heap.size) (Value.slice p2 (rows++[((⟨k,nq,t⟩,q,cp):zdF)]).length c2).cells;refine⟨(rows++[((⟨k,nq,t⟩,q,cp):zdF)],p2,c2,st2,n'),(cvE rfl rfl),⟨?_,(zo (by omega)).trans frT,zm fcT,(bV.trans (bT.mono (by omega))).trans bS,?_,?_,?_,?_,?_,?_⟩,QA _⟩
    ·
     have og:=hT.ord;have hgT:=hT.glob;have sm:∀ {j},j≠w.heap.size+1->(T.setRow (w.heap.size+1) (Value.slice p2 (rows++[((⟨k,nq,t⟩,q,cp):zdF)]).length c2).cells).heap[j]?=T.heap[j]?:=fun {j} hj=>zo hj;exact⟨(sm (by omega)).trans hT.f,hT.lm.same (sm (by omega)),hT.cm.same (sm (by omega)),og,hgT.grown (g:=w.heap.size+1) (by omega) (qA T _ _),hT.len,hT.pos,hT.nod,hT.dep⟩
    ·refine hoT.kept (qA T (w.heap.size+1) _) fun gg hg e=>?_;have h5:w.heap.size+5<=gg:=(zA hoT hg).1;simp at e;omega
    ·have other:∀ {b:Nat} {cs:Array Value} {ty:TypeId} {fr:Nat×Nat},w.heap.size+4<b->(∀ a,p=some a->a.block≠b)->b<Z.heap.size->(T.setRow (w.heap.size+1) (Value.slice p2 (rows++[((⟨k,nq,t⟩,q,cp):zdF)]).length c2).cells).heap[b]?=Z.heap[b]?/\∀ a,p2=some a->a.block≠b:=by
      intro b cs ty fr h1 h2 h3;refine⟨?_,fun a ha=>?_⟩
      ·rw [zo (by omega),gT.block b (by omega) ?_,hbV.block b (by omega),hbU.block b h3];intro e;rcases p with _ | a
       ·simp [Value.ownBlock] at e
       ·rcases hoV.inv with ⟨h0,_⟩ | ⟨gg,_,h0,_⟩
        ·cases h0
        ·cases h0
         simp [Value.ownBlock] at e;exact h2 _ rfl e.symm
      ·rcases hat a ha with h4 | h4
       ·exact h2 a h4
       ·omega
     refine LinK.snoc ?_ ?_
     ·have k1:LinK (fun b=>(w.heap.size+4<b/\∀ a,p=some a->a.block≠b)/\b<Y.heap.size) Y rows:=hk.there;have k2:LinK (fun b=>(w.heap.size+4<b/\∀ a,p=some a->a.block≠b)/\b<Y.heap.size) Z rows:=k1.by fun b cs ty fr hb hc=>oZ.block b hb.2 (by omega) (by omega) (by omega)
      refine (k2.by fun b cs ty fr hb hc=>(other (cs:=cs) (ty:=ty) (fr:=fr) hb.1.1 hb.1.2 (by omega)).1).weak fun b hb=>⟨hb.1.1,(other (cs := #[]) (ty:=0) (fr:=(0,0)) hb.1.1 hb.1.2 (by omega)).2⟩
     ·intro x hx;obtain rfl:=KA.1 hx;have pl:∀ {b:Nat},Y.heap.size<=b->∀ a,p=some a->a.block≠b:=fun {b} hb a ha e=>by have:=(zA ho ha).2.1;omega
      have k1:KidsT (fun b=>Y.heap.size<=b/\b<Z.heap.size) Z q t.kids:=hkd.there;refine⟨by show k<=255;omega,by show nq.length<=_;omega,by show t.name.length<=_;omega,?_⟩;exact (k1.by fun b cs ty fr hb hc=>(other (cs:=cs) (ty:=ty) (fr:=fr) (by omega) (pl hb.1) hb.2).1).weak fun b hb=>⟨by omega,(other (cs := #[]) (ty:=0) (fr:=(0,0)) (by omega) (pl hb.1) hb.2).2⟩
    ·dsimp only;rw [lap];have hlt:=hmy _ _ rfl;show rows.length+1<=40;omega
    ·rcases hm.2.2 with e | e
     ·exact⟨i,e.trans hi⟩
     ·exact e
    ·dsimp only;rw [hR,QT];rfl
    ·have:=hon _ _ rfl;have hp2:=hZ.pos;dsimp only;omega
 ·have h2:(!decide ((st.tok.kind:Int)=((1:Nat):Int)))=false:=h2;rw [zX] at h2;have h2:st.tok.kind=1:=by simpa using h2
  rw [Gz h2] at hR;refine⟨_,rfl,za fc,hlt fc,zr (v := .agg #[.slice p rows.length cap]) k47 fr rfl rfl rfl ?_⟩;have ok2:OwnS zkK 49 (w.heap.size+5) (Y.setRow w.heap.size (Value.agg #[.slice p rows.length cap]).cells) p cap rows:=ho.kept (qA Y w.heap.size _) fun gg hg e=>by
   have h5:w.heap.size+5<=gg:=(zA ho hg).1;simp at e;omega
  refine⟨[.slice p rows.length cap],rfl,za (zm fr),⟨p,cap,by rw [hR];show _=Ending.returned (.tuple #[.agg #[.slice p (rows.map (·.1)).length cap],i64 0,i64 0]);rw [QQ];rfl,by rw [hR];show (rows.map (·.1)).length<=40;rw [QQ];exact h40,rows,by rw [hR];rfl,ok2.row,?_,fun _ a ha=>by have:=(zA ok2 ha).1;omega⟩,zj bY (Ge _) _⟩;exact (hk.by fun b cs ty fr hb hc=>zo (by omega)).weak fun b hb=>by omega
end
end Go.Proofs.YtnadlhpkpnfmbaaGreatDoor
namespace Go.Proofs.YtnadlhpkpnfmbaaGreatDoor
open Go.Vc
mutual
def nodesT:Trm->Nat
 | .mk _ _ l=>1+nodesK l
def nodesK:List Trm->Nat
 | []=>0
 | t::r=>nodesT t+nodesK r
end
inductive VT:Trm->Prop
 | mk (k:UInt8) (nq:Bs) (kids:List Trm) (hk:k.toNat<10) (hl:(kids.length:Int)=jG k.toNat) (hn:nq.length<=16) (hv:∀ x∈kids,VT x):VT (.mk k nq kids)
theorem VT.inv {k:UInt8} {nq:Bs} {kids:List Trm} (h:VT (.mk k nq kids)):k.toNat<10/\(kids.length:Int)=jG k.toNat/\nq.length<=16/\∀ x∈kids,VT x:=by
 cases h with
 | mk _ _ _ h1 h2 h3 h4=>exact⟨h1,h2,h3,h4⟩
theorem zpJ {s:Bs} (h:zal s=true):s.length<=16:=by
 unfold zal at h;rw [Qk] at h;obtain⟨w,hw,he⟩:=h;have he:=dT he;subst he
 revert hw
 have:∀ w∈[[112,111],[114,102],[99,111],[102,114],[114,109,119],[100,97,116,97],[99,116,114,108],[108,111,99],[105,100],[101,120,116],[105,110,116]],(w:Bs).length<=16:=by decide
 exact this _
theorem zpy {s:Bs} (h:zh6 s=true):s.length<=16:=by
 unfold zh6 at h;rw [Qk] at h;obtain⟨w,hw,he⟩:=h;have he:=dT he;subst he
 revert hw
 have:∀ w∈[[82],[87],[70],[77],[65],[76],[88],[70,70],[70,76],[70,83],[73]],(w:Bs).length<=16:=by decide
 exact this _
theorem zhR (lets:Bs->Bool) (n:Nat):∀ t,n<=(chkT lets n t).2/\((chkT lets n t).1=true->(chkT lets n t).2<=400):=fun t=>by
 cases t with
 | mk k nq kids=>exact go n k nq kids
where
 go (n:Nat) (k:UInt8) (nq:Bs):∀ kids,n<=(chkT lets n (.mk k nq kids)).2/\((chkT lets n (.mk k nq kids)).1=true->(chkT lets n (.mk k nq kids)).2<=400):=fun kids=>by
  rw [chkT]
  split
  ·exact⟨by show n<=n+1;omega,fun h=>by cases h⟩
  ·split
   ·exact⟨by show n<=n+1;omega,fun _=>by show n+1<=400;omega⟩
   ·split
    ·exact⟨by show n<=n+1;omega,fun _=>by show n+1<=400;omega⟩
    ·split
     ·exact⟨by show n<=n+1;omega,fun h=>by cases h⟩
     ·have:=goL (n+1) kids (by omega);exact⟨by omega,this.2⟩
 goL (n:Nat):∀ kids,n<=400->n<=(chkL lets n kids).2/\((chkL lets n kids).1=true->(chkL lets n kids).2<=400)
  | [],h=>by rw [chkL];exact⟨Ge _,fun _=>h⟩
  | .mk k nq l::r,h=>by
   rw [chkL];have:=go n k nq l
   split <;> rename_i n2 e <;> rw [e] at this
   ·exact⟨this.1,fun h=>by cases h⟩
   ·have h2:=goL n2 r (this.2 rfl);have h3:=this.1;exact⟨by dsimp only at h3;omega,h2.2⟩
theorem ziT (lets:Bs->Bool) (hl:∀ s,lets s=true->s.length<=16):∀ t n n',chkT lets n t=(true,n')->VT t/\n'=n+nodesT t
 | .mk k nq kids,n,n',h=>by
  rw [chkT] at h
  split at h
  ·cases h
  ·rename_i hc;have h1:k.toNat<10:=by
    refine Jn fun hn=>hc (.inr (.inl (by omega)))
   have h2:(kids.length:Int)=jG k.toNat:=by
    refine Jn fun hn=>hc (.inr (.inr hn))
   split at h
   ·rename_i hk;have hk0:kids=[]:=by
     rw [hk] at h2;have:(kids.length:Int)=0:=h2;exact Jf (by omega)
    subst hk0;have h:=Gh h;have hnm:nq.length<=16:=by
     have:=h.1;rw [QI] at this;rcases this with h | h
     ·exact zpJ h
     ·exact hl _ h
    exact⟨.mk _ _ _ h1 h2 hnm (fun x hx=>by cases hx),by rw [<- h.2,nodesT,nodesK]⟩
   ·split at h
    ·rename_i hk;have hk0:kids=[]:=by
      rw [hk] at h2;have:(kids.length:Int)=0:=h2;exact Jf (by omega)
     subst hk0;have h:=Gh h;exact⟨.mk _ _ _ h1 h2 (zpy h.1) (fun x hx=>by cases hx),by rw [<- h.2,nodesT,nodesK]⟩
    ·split at h
     ·cases h
     ·rename_i hnm;have hnm:nq=[]:=Jn hnm;obtain⟨hv,hn⟩:=go kids (n+1) n' h;exact⟨.mk _ _ _ h1 h2 (by rw [hnm];exact Gg _) hv,by rw [hn,nodesT];omega⟩
where
 go:∀ (l:List Trm) n n',chkL lets n l=(true,n')->(∀ x∈l,VT x)/\n'=n+nodesK l
  | [],n,n',h=>by
   rw [chkL] at h;refine⟨fun x hx=>?_,?_⟩
   ·cases hx
   ·rw [nodesK];exact (Gh h).2.symm
  | t::r,n,n',h=>by
   rw [chkL] at h
   split at h
   ·cases h
   ·rename_i n2 e;obtain⟨h1,h2⟩:=ziT lets hl t n n2 e;obtain⟨h3,h4⟩:=go r n2 n' h;refine⟨fun x hx=>?_,by rw [h4,h2,nodesK];omega⟩;rcases UG.1 hx with rfl | hx
    ·exact h1
    ·exact h3 x hx
def zvm (w w2:Pr) (n:Nat):Prop:=w2.text.length<=w.text.length+24*n/\w2.deep=w.deep/\w2.most<=max w.most (w.deep+n)/\w.text.length<=w2.text.length
theorem zfX:∀ t:Trm,1<=nodesT t
 | .mk _ _ _=>by rw [nodesT];omega
theorem qM (w:Pr) (s:Bs):(qZ w s).text.length=w.text.length+s.length:=lap
theorem ze5 (k:Nat):(ze6 k).length<=3:=by
 unfold ze6;rcases Nat.lt_or_ge k 10 with h | h
 ·have:∀ j:Fin 10,(([[],[],[124],[38],[92],[59],[94,45,49],[43],[42],[]]:List Bs).getD j.1 []).length<=3:=by decide
  exact this ⟨k,h⟩
 ·rw [gDe,JJ (by simpa using h)];decide
theorem zfz {t:Trm} (ht:∀ w,zvm w (prT w t) (nodesT t)) (w:Pr) (least:Nat) (r:List Trm):(prHead w least (t::r)).text.length<=w.text.length+24*nodesT t+2/\(prHead w least (t::r)).deep=w.deep/\(prHead w least (t::r)).most<=max w.most (w.deep+nodesT t+1)/\w.text.length<=(prHead w least (t::r)).text.length:=by
 rw [prHead]
 split
 ·have:=ht w;exact⟨by have:=this.1;omega,this.2.1,by have:=this.2.2.1;omega,this.2.2.2⟩
 ·have:=ht (qZ { w with deep:=w.deep+1,most:=max w.most (w.deep+1) } [40]);obtain⟨h1,h2,h3,h4⟩:=this;rw [qM] at h1 h4;have e1:([40]:Bs).length=1:=rfl;have e2:([41]:Bs).length=1:=rfl;dsimp only [qZ] at h1 h2 h3 h4 ⊢;refine⟨?_,?_,?_,?_⟩
  ·rw [lap];omega
  ·omega
  ·omega
  ·rw [lap];omega
theorem zdb:∀ t,VT t->∀ w,zvm w (prT w t) (nodesT t)
 | .mk k nq kids,hv,w=>by
  obtain⟨hk,hl,hn,hkv⟩:=hv.inv;have ih:∀ x∈kids,∀ w,zvm w (prT w x) (nodesT x):=fun x hx=>zdb x (hkv x hx);rw [prT]
  split
  ·rw [nodesT];refine⟨by rw [qM];omega,rfl,by show w.most<=_;omega,by rw [qM];omega⟩
  ·split
   ·rw [nodesT];refine⟨by simp only [qM,Qs,QR];omega,rfl,by show w.most<=_;omega,by simp only [qM];omega⟩
   ·rename_i hk1 hk9
    split
    ·rename_i h68;have hl1:kids.length=1:=by
      rcases h68 with rfl | rfl | rfl
      all_goals
       have:(kids.length:Int)=1:=hl;omega
     match kids,hl1,ih with
     | [a],_,ih =>
      have h1:=zfz (ih a Kz) w 5 [];have h2:=ze5 k.toNat;rw [nodesT,nodesK,nodesK];refine⟨by rw [qM];omega,h1.2.1,by have:=h1.2.2.1;show (prHead w 5 [a]).most<=_;omega,by rw [qM];omega⟩
    ·rename_i h68;have hl2:kids.length=2:=by
      have key:∀ j:Fin 10,j.1≠1->j.1≠9->j.1≠6->j.1≠7->j.1≠8->jG j.1=2\/jG j.1 = -1:=(by decide);have nk:∀ (m:UInt8),k≠m->k.toNat≠m.toNat:=fun m h e=>h (Uh.1 e);rcases key ⟨k.toNat,hk⟩ (nk 1 hk1) (nk 9 hk9) (nk 6 (fun e=>h68 (.inl e))) (nk 7 (fun e=>h68 (.inr (.inl e)))) (nk 8 (fun e=>h68 (.inr (.inr e)))) with h | h
      ·have h:jG k.toNat=2:=h;omega
      ·have h:jG k.toNat = -1:=h;omega
     match kids,hl2,ih with
     | [a,b],_,ih =>
      have h1:=zfz (ih a Kz) w (zdB k.toNat) [b];have h2:=ze5 k.toNat;have h3:=zfz (ih b (JW _ Kz)) (qZ (qZ (qZ (prHead w (zdB k.toNat) [a,b]) [32]) (ze6 k.toNat)) [32]) (zdB k.toNat+1) [];rw [nodesT,nodesK,nodesK,nodesK];rw [prTail];simp only [qM,Qs,QR] at h3;obtain⟨a1,a2,a3,a4⟩:=h1;obtain⟨b1,b2,b3,b4⟩:=h3;have na:=zfX a;have nb:=zfX b;dsimp only [qZ] at b2 b3;refine⟨by omega,by dsimp only [qZ];omega,?_,by omega⟩;dsimp only [qZ];omega
end Go.Proofs.YtnadlhpkpnfmbaaGreatDoor
namespace Go.Proofs.YtnadlhpkpnfmbaaGreatDoor
open Go.Vc Go.RowKit Go.Sei
theorem zql (s:Bs) (hs:s.length<=140737488351232) (w:Wd) (hg:GlobK w):Calls PG 144 #[zu s] w fun e w'=>e = .returned (.bool (zcU s))/\w=w':=by
 refine zJ 27 [zu s] Tryz.func144 ?_;unfold zcU;refine⟨_,fun w=>zfm _ _ s [] w,?_⟩;refine biE (fun h=>?_) fun h=>?_
 ·have h:(!decide (s=[]))=true:=h;have h0:s≠[]:=by simpa using h
  have hp:0<s.length:=List.length_pos_iff.2 h0;rw [Uu h0,UA];refine biE (fun h1=>?_) fun h1=>?_
  ·have h1:(s.length:Int)<=16:=dT h1;rw [Uu (p:=s.length<=16) (by omega),UA];refine⟨0,rfl,hp,s[0],zeE hp,?_⟩;have e0:s.getD 0 0=s[0]:=by rw [gDe,gE hp];rfl
   rw [e0];refine cmo (zhr s[0] w) ?_;rintro e _ ⟨rfl,rfl⟩;refine biE (fun h2=>?_) fun h2=>?_
   ·have h2:zbk s[0]=true:=h2;rw [h2,UA];refine cmo (zir s 0 (Gg _) hs w) ?_;rintro e _ ⟨rfl,rfl⟩;have hd:decide (((jm qO s 0:Nat):Int)=(s.length:Int))=decide (jm qO s 0=s.length):=zX;refine biE (fun h3=>?_) fun h3=>?_
    ·have h3:decide (jm qO s 0=s.length)=true:=hd.symm.trans h3;rw [h3,UA];refine cmo (znj s w hg) ?_;rintro e _ ⟨rfl,rfl⟩;exact⟨rfl,rfl⟩
    ·have h3:decide (jm qO s 0=s.length)=false:=hd.symm.trans h3;refine⟨rb ?_,rfl⟩;rw [h3];rfl
   ·have h2:zbk s[0]=false:=h2;refine brF ?_;refine⟨rb ?_,rfl⟩;rw [h2];rfl
  ·have h1:¬ (s.length:Int)<=16:=dF h1;refine brF ?_;refine brF ?_;refine⟨rb ?_,rfl⟩;rw [Uj (p:=s.length<=16) (by omega)];rfl
 ·have h:(!decide (s=[]))=false:=h;have h0:s=[]:=by simpa using h
  refine brF ?_;refine brF ?_;refine brF ?_;refine⟨rb ?_,rfl⟩;rw [h0];rfl
structure ChkB (kb l:Nat) (lets:Bs->Bool) (n:Nat) (w:Wd):Prop where
 f:w.heap[kb]?=some (.cells #[.map (some l),i64 (n:Nat)] 110 (0,0))
 lm:MapF zbQ w l (zft lets)
 ne:l≠kb
 og:3<kb
 ol:3<l
 glob:GlobK w
section
variable {kb l:Nat} {lets:Bs->Bool} {n:Nat} {w w2 X Y:Wd} {Q:Nat->Prop}
theorem ChkB.lt (h:ChkB kb l lets n w):kb<w.heap.size:=hlt h.f
theorem ChkB.below (h:ChkB kb l lets n w) (hb:Bw w w2):ChkB kb l lets n w2:=⟨zb hb h.f,h.lm.below hb,h.ne,h.og,h.ol,h.glob.below hb⟩
theorem ChkB.count (h:ChkB kb l lets n w) {m:Nat} {K:Wd->Prop} (k:∀ Y,ChkB kb l lets m Y->w.grownBy Y (some kb)->K Y) :
  SatR ((storeVar 3 ⟨kb,1,none⟩ (i64 (m:Nat))).run PG w) fun _ w'=>K w':=by
 have hn:=h.ne;exact zy k3 h.f (o:=1) (v:=i64 (m:Nat)) rfl rfl (by show 1<2;decide) rfl fun Y fY gY _=>k Y ⟨fY,h.lm.same (gY.block l (zah h.lm) (by simp;omega)),hn,h.og,h.ol,h.glob.grown h.og gY⟩ gY
structure ChT (Q:Nat->Prop) (w:Wd) (kb l:Nat) (lets:Bs->Bool) (n tb:Nat) (t:Trm) (q:OA) (cap:Nat) (X:Wd):Prop where
 p:ChkB kb l lets n X
 x:X.heap[tb]?=some (.cells (zf t q cap).toArray 24 (0,0))
 k:KidsT Q X q t.kids
 o:w.grownBy X (some kb)
 ne:tb≠kb
theorem ChT.grown {m tb:Nat} {t:Trm} {q:OA} {cap:Nat} (hQ:∀ b,Q b->b≠kb) (h:ChT Q w kb l lets n tb t q cap X) (hY:ChkB kb l lets m Y) (g:X.grownBy Y (some kb)):ChT Q w kb l lets m tb t q cap Y:=by
 have hne:=h.ne;exact⟨hY,(g.block _ (hlt h.x) (by simp;omega)).trans h.x,h.k.by fun b cs ty fr hb hc=>g.block b (hlt hc) (by have:=hQ b hb;simp;omega),zh h.o g,hne⟩
theorem zr9 (hg:GlobK w) {k:Nat} (hk:k<10):w.cell? ⟨0,0+k,none⟩=some (i64 (jG k)):=by
 refine zc hg.nd ?_;have hk:k<zfn.length:=hk;rw [KU,gE hk];unfold jG;rw [gDe];show some (i64 zfn[k])=some (i64 ((zfn[k]?).getD (-1)));rw [gE hk];rfl
def zvx (kb l:Nat) (lets:Bs->Bool) (Q:Nat->Prop) (t:Trm):Prop:=∀ (n:Nat) (q:OA) (cap:Nat) (w:Wd),n<=400->ChkB kb l lets n w->t.name.length<=140737488351232->KidsT Q w q t.kids ->
 Calls PG 49 #[At0 kb,.agg (zf t q cap).toArray] w fun e w'=>e = .returned (.bool (chkT lets n t).1)/\ChkB kb l lets (chkT lets n t).2 w'/\w.grownBy w' (some kb)
theorem zuX (hQ:∀ b,Q b->b≠kb) {k:UInt8} {nq:Bs} {kids:List Trm} (ih:∀ x∈kids,zvx kb l lets Q x):zvx kb l lets Q (.mk k nq kids):=by
 intro n q cap w hn hB hnm hkd;refine qa 71 [At0 kb,.agg (zf (.mk k nq kids) q cap).toArray] (.c .p (.c .p (.c .p (.c .p (.c .p (.c .p .p)))))) Tryz.func49 ?_;obtain⟨R,hR⟩:=nm (chkT lets n (.mk k nq kids));rw [<- hR];rw [chkT] at hR;have hkb:=hB.lt;have hkl:kids.length<=140737488351232:=hkd.inv.1;have nk:∀ m:UInt8,decide ((k.toNat:Int)=(m.toNat:Int))=decide (k=m):=fun m=>jb k m;refine⟨Unit,fun _=>⟨[(0,At0 kb),(3,At0 w.heap.size)],[]⟩,fun _ X=>ChT Q w kb l lets n w.heap.size (.mk k nq kids) q cap X,⟨(),(cvE rfl rfl),hB.below (zba _ _),zz w _,hkd.kept (zba _ _),zi (zba _ _),by omega⟩,?_⟩;rintro _ X hX;refine⟨Unit,fun _=>⟨[(0,At0 kb),(3,At0 w.heap.size)],[]⟩,fun _ X=>ChT Q w kb l lets (n+1) w.heap.size (.mk k nq kids) q cap X,?_,?_⟩
 ·refine⟨_,zc (za hX.p.f) (i:=1) rfl,?_⟩;refine nxI (by omega) ?_;refine hX.p.count (m:=n+1) fun Y hY gY=>?_;exact⟨(),(cvE rfl rfl),hX.grown hQ hY gY⟩
 clear hX hB;rintro _ X hX;have no:∀ {Y:Wd},ChT Q w kb l lets (n+1) w.heap.size (.mk k nq kids) q cap Y->R=(false,n+1)->Ending.returned (.bool false) = .returned (.bool R.1)/\ChkB kb l lets R.2 Y/\w.grownBy Y (some kb):=fun {Y} hY hR=>⟨rb (Gs Prod.fst hR).symm,by rw [hR];exact hY.p,hY.o⟩;refine⟨Unit,fun _=>⟨[(0,At0 kb),(3,At0 w.heap.size)],[]⟩,fun _ X=>ChT Q w kb l lets (n+1) w.heap.size (.mk k nq kids) q cap X/\¬ (n+1 > 400\/k.toNat ≥ 10\/(kids.length:Int)≠jG k.toNat),?_,?_⟩
 ·refine DrawE.ord [] [0,1,2,3,4,5,6,7,8,9,10,11,12,13,14,15,16,17,18,19,20] (by kernel_rfl) ?_;have bD:=(Gj X.heap.size X).drew;have hD:ChT Q w kb l lets (n+1) w.heap.size (.mk k nq kids) q cap X.drew:=hX.grown hQ (hX.p.below bD) (zi bD);refine⟨_,zc (za hD.p.f) (i:=1) rfl,?_⟩;have bad:(n+1 > 400\/k.toNat ≥ 10\/(kids.length:Int)≠jG k.toNat)->R=(false,n+1):=fun h=>by rw [hR,Gz h]
  refine biE (fun h1=>?_) fun h1=>?_
  ·have h1:(400:Int)<((n+1:Nat):Int):=dT h1;refine brT ?_;refine brT ?_;exact no hD (bad (.inl (by omega)))
  have h1:¬ (400:Int)<((n+1:Nat):Int):=dF h1;refine⟨_,zc (za hD.x) (i:=0) rfl,?_⟩;have hk8:=k.toNat_lt;refine⟨(k.toNat:Int),zk (a:=(k.toNat:Int)) (by omega),?_⟩;refine biE (fun h2=>?_) fun h2=>?_
  ·have h2:(10:Int)<=(k.toNat:Int):=dT h2;refine brT ?_;exact no hD (bad (.inr (.inl (by omega))))
  have h2:¬ (10:Int)<=(k.toNat:Int):=dF h2;refine⟨_,zc (za hD.x) (i:=2) rfl,?_⟩;refine⟨_,zc (za hD.x) (i:=0) rfl,?_⟩;refine⟨k.toNat,rfl,by omega,?_⟩;refine⟨_,by rw [Gf];exact zr9 hD.p.glob (by omega),?_⟩;refine biE (fun h3=>?_) fun h3=>?_
  ·have h3:(!decide ((kids.length:Int)=jG k.toNat))=true:=h3;exact no hD (bad (.inr (.inr (by simpa using h3))))
  ·have h3:(!decide ((kids.length:Int)=jG k.toNat))=false:=h3;have h3:(kids.length:Int)=jG k.toNat:=by simpa using h3
   exact⟨(),(cvE rfl rfl),hD,by rintro (h | h | h);omega;omega;exact h h3⟩
 clear hX;rintro _ X ⟨hX,hgood⟩;rw [Gy hgood] at hR;refine⟨Unit,fun _=>⟨[(0,At0 kb),(3,At0 w.heap.size)],[]⟩,fun _ X=>ChT Q w kb l lets (n+1) w.heap.size (.mk k nq kids) q cap X/\k≠1/\k≠9,?_,?_⟩
 ·refine⟨_,zc (za hX.x) (i:=0) rfl,?_⟩;refine biE (fun h1=>?_) fun h1=>?_
  ·have h1:k=1:=dT ((nk 1).symm.trans h1);rw [Gz h1] at hR;refine DrawE.ord [] [0,1,2,3,4,5,6,7,8,9,10,11,12] (by kernel_rfl) ?_;have bD:=(Gj X.heap.size X).drew;have hD:ChT Q w kb l lets (n+1) w.heap.size (.mk k nq kids) q cap X.drew:=hX.grown hQ (hX.p.below bD) (zi bD);refine⟨_,zc (za hD.x) (i:=1) rfl,?_⟩;refine cmo (zgS nq _) ?_;rintro e _ ⟨rfl,rfl⟩;refine⟨Gj _ _,?_⟩;refine biE (fun h2=>?_) fun h2=>?_
   ·have h2:zal nq=true:=h2;exact⟨rb (by rw [hR,h2];rfl),by rw [hR];exact hD.p,hD.o⟩
   ·have h2:zal nq=false:=h2;refine⟨_,zc (za hD.p.f) (i:=0) rfl,?_⟩;refine⟨_,zc (za hD.x) (i:=1) rfl,?_⟩;refine⟨_,fun w2 hb=>zdW (hD.p.lm.below hb) nq,?_⟩;exact⟨rb (by rw [hR,h2];rfl),by rw [hR];exact hD.p,hD.o⟩
  have h1:k≠1:=dF ((nk 1).symm.trans h1);rw [Gy h1] at hR;refine biE (fun h2=>?_) fun h2=>?_
  ·have h2:k=9:=dT ((nk 9).symm.trans h2);rw [Gz h2] at hR;refine⟨_,zc (za hX.x) (i:=1) rfl,?_⟩;refine cmo (zni nq X) ?_;rintro e _ ⟨rfl,rfl⟩;exact⟨rb (Gs Prod.fst hR).symm,by rw [hR];exact hX.p,hX.o⟩
  ·have h2:k≠9:=dF ((nk 9).symm.trans h2);exact⟨(),(cvE rfl rfl),hX,h1,h2⟩
 clear hX;rintro _ X ⟨hX,h1,h9⟩;rw [Gy h1,Gy h9] at hR;refine⟨Unit,fun _=>⟨[(0,At0 kb),(3,At0 w.heap.size)],[]⟩,fun _ X=>ChT Q w kb l lets (n+1) w.heap.size (.mk k nq kids) q cap X/\nq=[],?_,?_⟩
 ·refine⟨_,zc (za hX.x) (i:=1) rfl,?_⟩;refine⟨_,fun w=>zfm _ _ nq [] w,?_⟩;refine biE (fun h2=>?_) fun h2=>?_
  ·have h2:(!decide (nq=[]))=true:=h2;have h2:nq≠[]:=by simpa using h2
   rw [Gz h2] at hR;exact no hX hR
  ·have h2:(!decide (nq=[]))=false:=h2;exact⟨(),(cvE rfl rfl),hX,by simpa using h2⟩
 clear hX;rintro _ X ⟨hX,hnm0⟩;rw [Gy (fun h=>h hnm0)] at hR;refine⟨Nat,fun _=>⟨[],[]⟩,fun m X=>ChkB kb l lets m X/\w.grownBy X (some kb)/\R=(true,m),?_,?_⟩
 ·refine⟨_,zc (za hX.x) (i:=2) rfl,?_⟩;refine⟨Nat×Nat,fun y=>⟨[(0,At0 kb),(3,At0 w.heap.size),(60,.slice q kids.length cap),(61,i64 (kids.length:Nat)),(62,.int .i64 (y.1:Nat))],[]⟩,fun y X=>ChT Q w kb l lets y.2 w.heap.size (.mk k nq kids) q cap X/\y.1<=kids.length/\y.2<=400/\R=chkL lets y.2 (kids.drop y.1),fun y=>kids.length-y.1,(0,n+1),(cvE rfl rfl),⟨hX,Gg _,by dsimp only;omega,hR⟩,?_⟩;clear hX hR;rintro⟨i,m⟩ X ⟨hX,hi,hm,hR⟩;dsimp only at hX hi hm hR ⊢;refine biE (fun hc=>?_) fun hc=>?_
  ·have hc:(i:Int)<(kids.length:Int):=dT hc;have hil:i<kids.length:=by omega
   obtain⟨_,b,o,hq,hcl⟩:=hX.k.inv;obtain⟨q2,c2,hnl,hQb,hcell,hk2⟩:=hcl i hil;have hcell:zw X ⟨b,o+i*3,none⟩ (zf kids[i] q2 c2):=hcell;have hk2:KidsT Q X q2 kids[i].kids:=hk2;have hnl:kids[i].name.length<=140737488351232:=hnl;obtain rfl:q=some ⟨b,o,none⟩:=by
    rcases hq with h | h
    ·have h:kids.length=0:=h;omega
    ·exact h
   have hbs:b<X.heap.size:=by
    have h0:=hcell 0 _ rfl;unfold World.cell? at h0
    split at h0
    ·rename_i hb;exact hlt hb
    ·cases h0
   refine⟨i,rfl,hil,?_⟩;refine⟨zf kids[i] q2 c2,rfl,hcell,hbs,?_⟩;refine zn (X:=X) (v := .agg (zf kids[i] q2 c2).toArray) k24 rfl rfl rfl fun Y hbY fY sY=>?_;have hY:ChT Q w kb l lets m w.heap.size (.mk k nq kids) (some ⟨b,o,none⟩) cap Y:=hX.grown hQ (hX.p.below hbY) (zi hbY);refine⟨zf kids[i] q2 c2,rfl,za fY,hlt fY,?_⟩;refine cmo (ih kids[i] (gM hil) m q2 c2 Y hm hY.p hnl (hk2.kept hbY)) ?_;have hmono:=zhR lets m kids[i];rw [Jo hil,chkL] at hR;rcases hck:chkT lets m kids[i] with ⟨b2,m2⟩;rw [hck] at hR hmono;rintro e Z ⟨rfl,hZ,gZ⟩;dsimp only at hZ hmono ⊢;have hZZ:=hY.grown hQ hZ gZ;refine biE (fun hb=>?_) fun hb=>?_
   ·have hb:(!b2)=true:=hb;have hb:b2=false:=(by simpa using hb);subst hb;have hR:R=(false,m2):=hR;exact⟨rb (Gs Prod.fst hR).symm,by rw [hR];exact hZ,hZZ.o⟩
   ·have hb:(!b2)=false:=hb;have hb:b2=true:=(by simpa using hb);subst hb;refine nxI (by omega) ?_;exact⟨(i+1,m2),(cvE rfl rfl),⟨hZZ,hil,hmono.2 rfl,hR⟩,by dsimp only;omega⟩
  ·have hc:¬ (i:Int)<(kids.length:Int):=dF hc;rw [JA (by omega),chkL] at hR;exact⟨m,⟨.nil,rfl⟩,hX.p,hX.o,hR⟩
 clear hX hR;rintro m X ⟨hX,gX,hR⟩;exact⟨rb (Gs Prod.fst hR).symm,by rw [hR];exact hX,gX⟩
theorem ztE (hQ:∀ b,Q b->b≠kb):∀ t,zvx kb l lets Q t
 | .mk k nq kids=>zuX hQ fun x hx=>ztE hQ x
end
structure LnB (w0 w:Wd) (kb l cb:Nat) (lets checks:Bs->Bool) (n:Nat) (X:Wd):Prop where
 p:ChkB kb l lets n X
 c:MapF zbQ X cb (zft checks)
 b:Bw w0 X
 o:Oth kb l l w X
 lo:w0.heap.size<=kb/\w0.heap.size<=l/\w0.heap.size<=w.heap.size
 hi:kb<w.heap.size/\l<w.heap.size/\w.heap.size<=cb
section
variable {w0 w X Y:Wd} {kb l cb n m:Nat} {lets checks:Bs->Bool}
theorem LnB.grown (h:LnB w0 w kb l cb lets checks n X) (hY:ChkB kb l lets m Y) (g:X.grownBy Y (some kb)):LnB w0 w kb l cb lets checks m Y:=by
 have h1:=h.lo;have h2:=h.hi;refine⟨hY,h.c.same (g.block _ (zah h.c) (by simp;omega)),h.b.trans (zq g h.b.size h1.1),h.o.trans (.of_grown g),h1,h2⟩
theorem LnB.below (h:LnB w0 w kb l cb lets checks n X) (hb:Bw X Y):LnB w0 w kb l cb lets checks n Y :=
 h.grown (h.p.below hb) (zi hb)
theorem LnB.setL (h:LnB w0 w kb l cb lets checks n X) (nq:Bs) {K:Wd->Prop} (k:∀ Y,LnB w0 w kb l cb (zdC lets nq) checks n Y->X.grownBy Y (some l)->K Y) :
  SatR ((Instr.mapUpdate 105 (.map (some l)) (zu nq) (.bool true)).run PG X) fun _ w'=>K w':=by
 obtain⟨o,hr,hm⟩:=zaa zj2 Tryz.underlying105 h.p.lm nq (.bool true);have h1:=h.lo;have h2:=h.hi;have h3:=h.p.ne;have gr:=zeo X l o;exact SatR.mk hr (k _ ⟨⟨(gr.block _ (hlt h.p.f) (by simp;omega)).trans h.p.f,by rw [ze8] at hm;exact hm,h3,h.p.og,h.p.ol,h.p.glob.grown h.p.ol gr⟩,h.c.same (gr.block _ (zah h.c) (by simp;omega)),h.b.trans (zq gr h.b.size h1.2.1),h.o.trans ⟨gr.os,gr.tape,gr.output,gr.size,fun j hj _ hn _=>gr.block j hj (by simp;omega)⟩,h1,h2⟩ gr)
theorem LnB.setC (h:LnB w0 w kb l cb lets checks n X) (nq:Bs) {K:Wd->Prop} (k:∀ Y,LnB w0 w kb l cb lets (zdC checks nq) n Y->X.grownBy Y (some cb)->K Y) :
  SatR ((Instr.mapUpdate 105 (.map (some cb)) (zu nq) (.bool true)).run PG X) fun _ w'=>K w':=by
 obtain⟨o,hr,hm⟩:=zaa zj2 Tryz.underlying105 h.c nq (.bool true);have h1:=h.lo;have h2:=h.hi;have h3:=h.p.ne;have h4:=h.p.og;have gr:=zeo X cb o;exact SatR.mk hr (k _ ⟨⟨(gr.block _ (hlt h.p.f) (by simp;omega)).trans h.p.f,h.p.lm.same (gr.block _ (zah h.p.lm) (by simp;omega)),h3,h4,h.p.ol,h.p.glob.grown (by omega) gr⟩,by rw [ze8] at hm;exact hm,h.b.trans (zq gr h.b.size (by omega)),h.o.then (zq gr h.o.size (by omega)),h1,h2⟩ gr)
theorem zsf {ls:List LineD} {p:OA} {cap:Nat} (hM:LinsM (fun _=>True) w0 p ls) (hlen:ls.length<=140737488351232) (hB:ChkB kb l lets n w) (hn:n<=400) (hb:Bw w0 w) (h1:w0.heap.size<=kb) (h2:w0.heap.size<=l) :
  Calls PG 91 #[At0 kb,.slice p ls.length cap] w fun e w'=>∃ lets' m,e = .returned (.bool (decide (ls.length<=40)&&(qC lets (fun _=>false) n ls).1))/\(ls.length<=40->(qC lets (fun _=>false) n ls).1=true->lets'=(qC lets (fun _=>false) n ls).2)/\ChkB kb l lets' m w'/\Oth kb l l w w'/\Bw w0 w':=by
 refine qa 54 [At0 kb,.slice p ls.length cap] (.s .p (.c .p (.s .p (.s (.s .p (.b (.l (.s .p (.s .p (.s (.b (.c .p (.c .p (.s .p (.c .p (.c .p .p)))))) .p)))))) .p)))) Tryz.func91 ?_;have hkb:=hB.lt;have hll:=zah hB.lm;obtain⟨rows,hrl,zcI,hrk,_⟩:=hM;have hrn:rows.length=ls.length:=by rw [<- hrl,QQ]
 refine⟨Nat,fun cb=>⟨[(0,At0 kb),(1,.slice p ls.length cap),(5,.map (some cb))],[]⟩,fun cb X=>LnB w0 w kb l cb lets (fun _=>false) n X,?_,?_⟩
 ·refine⟨Value.map (some w.heap.size),w.alloc (.map #[] 0),rfl,?_⟩;have m3:MapF (key:=zbQ) (w.alloc (.map #[] 0)) w.heap.size (fun (_:Bs)=>none):=MapF.new;exact⟨w.heap.size,(cvE rfl rfl),hB.below (zba _ _),m3,hb.trans ((zba w (.map #[] 0)).mono hb.size),.of_below (zba _ _),⟨h1,h2,hb.size⟩,hkb,hll,Ge _⟩
 rintro cb X hX;refine biE (fun h3=>?_) fun h3=>?_
 ·have h3:(40:Int)<(ls.length:Int):=dT h3;exact⟨lets,n,rb (by rw [Uj (by omega)];rfl),fun h=>GA h (by omega),hX.p,hX.o,hX.b⟩
 have h3:¬ (40:Int)<(ls.length:Int):=dF h3;obtain⟨R,hR⟩:=nm (qC lets (fun _=>false) n ls);rw [<- hR,Uu (p:=ls.length<=40) (by omega),UA];have fin:∀ {Z:Wd} {lets2 checks2:Bs->Bool} {m:Nat} {lets3:Bs->Bool},LnB w0 w kb l cb lets2 checks2 m Z->R=(false,lets3)->∃ lets' m,Ending.returned (.bool false) = .returned (.bool R.1)/\(ls.length<=40->R.1=true->lets'=R.2)/\ChkB kb l lets' m Z/\Oth kb l l w Z/\Bw w0 Z:=fun {Z lets2 checks2 m lets3} hZ hR =>
  ⟨lets2,m,rb (Gs Prod.fst hR).symm,(fun _ h=>by rw [hR] at h;cases h),hZ.p,hZ.o,hZ.b⟩
 refine⟨Nat×(Bs->Bool)×(Bs->Bool)×Nat,fun y=>⟨[(0,At0 kb),(5,.map (some cb)),(13,.slice p ls.length cap),(14,i64 (ls.length:Nat)),(15,.int .i64 (y.1:Nat))],[]⟩,fun y X=>LnB w0 w kb l cb y.2.1 y.2.2.1 y.2.2.2 X/\y.1<=ls.length/\y.2.2.2<=400/\R=qC y.2.1 y.2.2.1 y.2.2.2 (ls.drop y.1),fun y=>ls.length-y.1,(0,lets,fun _=>false,n),(cvE rfl rfl),⟨hX,Gg _,hn,hR⟩,?_⟩;clear hX hR;rintro⟨i,lets,checks,n⟩ X ⟨hX,hi,hn,hR⟩;dsimp only at hX hi hn hR ⊢;refine biE (fun hc=>?_) fun hc=>?_
 ·have hc:(i:Int)<(ls.length:Int):=dT hc;have hil:i<ls.length:=by omega
  have hir:i<rows.length:=by omega
  obtain⟨x,hx⟩:=nm (ls[i]);have hxr:rows[i].1=x:=by
   rw [hx];have:(rows.map (·.1))[i]?=ls[i]?:=by rw [hrl]
   rw [KU,gE hir,gE hil] at this;exact Ug this
  rw [Jo hil,<- hx] at hR;rw [qC] at hR;obtain⟨bk,o,hp,hbk,hcl⟩:=zcI.at hir;subst hp;obtain⟨k1,k2,k3,k4⟩:=hrk rows[i] (gM hir);have hcell:zw w0 ⟨bk,o+i*5,none⟩ (zC rows[i].1.kind rows[i].1.name rows[i].1.term rows[i].2.1 rows[i].2.2):=hcl i hir;rw [hxr] at hcell k1 k2 k3 k4;obtain⟨q,hq⟩:=nm (rows[i].2.1);obtain⟨cp,hcp⟩:=nm (rows[i].2.2);rw [<- hq,<- hcp] at hcell;rw [<- hq] at k4;have kd:KidsT (fun b=>b<w0.heap.size) w0 q x.term.kids:=k4.there.weak fun b hb=>hb.2;have kids:∀ {Z:Wd},Bw w0 Z->KidsT (fun b=>b<w0.heap.size) Z q x.term.kids:=fun {Z} hZ=>kd.by fun b cs ty fr hb hc=>hZ.block b hb
  clear k4 zcI hrk hcl;refine⟨Nat,fun b7=>⟨[(0,At0 kb),(5,.map (some cb)),(7,At0 b7),(13,.slice (some ⟨bk,o,none⟩) ls.length cap),(14,i64 (ls.length:Nat)),(15,.int .i64 (i:Nat))],[]⟩,fun b7 Y=>LnB w0 w kb l cb lets checks n Y/\Y.heap[b7]?=some (.cells (zC x.kind x.name x.term q cp).toArray 49 (0,0))/\w.heap.size<=b7/\b7≠cb,?_,?_⟩
  ·refine⟨i,rfl,hil,zC x.kind x.name x.term q cp,rfl,jf hX.b hbk hcell,nL hbk hX.b.size,zn (X:=X) (v := .agg (zC x.kind x.name x.term q cp).toArray) k49 rfl rfl rfl fun Y hbY fY sY=>?_⟩;have:=zah hX.c;exact⟨X.heap.size,(cvE rfl rfl),hX.below hbY,fY,hX.o.size,by omega⟩
  clear hX X hcell;rintro b7 X ⟨hX,fx,hb7,hb7c⟩;have hnl:x.name.length<=140737488351232:=k2;refine⟨Nat,fun m=>⟨[(0,At0 kb),(5,.map (some cb)),(7,At0 b7),(13,.slice (some ⟨bk,o,none⟩) ls.length cap),(14,i64 (ls.length:Nat)),(15,.int .i64 (i:Nat))],[]⟩,fun m Y=>LnB w0 w kb l cb lets checks m Y/\Y.heap[b7]?=some (.cells (zC x.kind x.name x.term q cp).toArray 49 (0,0))/\m<=400/\¬ (x.kind > 3\/zcU x.name=false)/\chkT lets n x.term=(true,m),?_,?_⟩
  ·refine⟨_,zc (za fx) (i:=0) rfl,?_⟩;have bad:(x.kind > 3\/zcU x.name=false)->R=(false,lets):=fun h=>by rw [hR,Gz h]
   refine biE (fun h4=>?_) fun h4=>?_
   ·have h4:(3:Int)<(x.kind:Int):=dT h4;exact brT (brT (fin hX (bad (.inl (by omega)))))
   have h4:¬ (3:Int)<(x.kind:Int):=dF h4;refine⟨_,zc (za fx) (i:=1) rfl,cmo (zql x.name hnl X hX.p.glob) ?_⟩;rintro e _ ⟨rfl,rfl⟩;refine biE (fun h5=>?_) fun h5=>?_
   ·have h5:(!zcU x.name)=true:=h5;exact brT (fin hX (bad (.inr (by simpa using h5))))
   have h5:(!zcU x.name)=false:=h5;have h5:zcU x.name=true:=by simpa using h5
   have hgood:¬ (x.kind > 3\/zcU x.name=false):=by rintro (h | h);omega;rw [h5] at h;cases h
   rw [Gy hgood] at hR;have ht:zw X ⟨b7,0+2,none⟩ (zf x.term q cp):=jD (o:=2) (n:=3) fx;refine⟨zf x.term q cp,rfl,ht,hlt fx,?_⟩;have hck:=ztE (kb:=kb) (l:=l) (lets:=lets) (Q:=fun b=>b<w0.heap.size) (fun b hb=>by have:=hX.lo;omega) x.term n q cp X hn hX.p k3 (kids hX.b);have hmono:=zhR lets n x.term;rcases hce:chkT lets n x.term with ⟨b2,m⟩;rw [hce] at hR hck hmono;refine cmo hck ?_;rintro e Y ⟨rfl,hY,gY⟩;dsimp only at hY hmono ⊢;have hYY:=hX.grown hY gY;have h9:=hX.hi;have fY:=(gY.block _ (hlt fx) (by simp;omega)).trans fx;refine biE (fun h6=>?_) fun h6=>?_
   ·have h6:(!b2)=true:=h6;have h6:b2=false:=(by simpa using h6);subst h6;exact fin hYY hR
   ·have h6:(!b2)=false:=h6;have h6:b2=true:=(by simpa using h6);subst h6;exact⟨m,(cvE rfl rfl),hYY,fY,hmono.2 rfl,hgood,rfl⟩
  clear hX fx X;rintro m X ⟨hX,fx,hm,hgood,hce⟩;rw [Gy hgood,hce] at hR;dsimp only at hR;refine⟨Nat,fun nb=>⟨[(0,At0 kb),(5,.map (some cb)),(7,At0 b7),(8,.map (some nb)),(13,.slice (some ⟨bk,o,none⟩) ls.length cap),(14,i64 (ls.length:Nat)),(15,.int .i64 (i:Nat))],[]⟩,fun nb Y=>X=Y/\((x.kind=0/\nb=l/\zal x.name=false)\/(x.kind≠0/\nb=cb)),?_,?_⟩
  ·refine⟨_,zc (za fx) (i:=0) rfl,biE (fun h4=>?_) fun h4=>?_⟩
   ·have h4:(x.kind:Int)=0:=dT h4;rw [Gz (by omega)] at hR;refine⟨_,zc (za hX.p.f) (i:=0) rfl,_,zc (za fx) (i:=1) rfl,cmo (zgS x.name X) ?_⟩;rintro e _ ⟨rfl,rfl⟩;refine biE (fun h5=>?_) fun h5=>?_
    ·have h5:zal x.name=true:=h5;rw [h5,Bool.true_or,Gz rfl] at hR;exact fin hX hR
    ·have h5:zal x.name=false:=h5;exact⟨l,(cvE rfl rfl),rfl,.inl ⟨by omega,rfl,h5⟩⟩
   ·have h4:¬ (x.kind:Int)=0:=dF h4;exact⟨cb,(cvE rfl rfl),rfl,.inr ⟨by omega,rfl⟩⟩
  rintro nb _ ⟨rfl,hnb⟩;refine⟨Unit,fun _=>⟨[(0,At0 kb),(5,.map (some cb)),(7,At0 b7),(8,.map (some nb)),(13,.slice (some ⟨bk,o,none⟩) ls.length cap),(14,i64 (ls.length:Nat)),(15,.int .i64 (i:Nat))],[]⟩,fun nb Y=>X=Y/\((x.kind=0/\lets x.name=false)\/(x.kind≠0/\checks x.name=false)),?_,?_⟩
  ·refine⟨_,zc (za fx) (i:=1) rfl,?_⟩;obtain⟨gf,hm8,hgf⟩:∃ gf:Bs->Bool,MapF zbQ X nb (zft gf)/\((x.kind=0/\gf=lets/\zal x.name=false)\/(x.kind≠0/\gf=checks)):=by
    rcases hnb with ⟨e1,rfl,e3⟩ | ⟨e1,rfl⟩
    ·exact⟨lets,hX.p.lm,.inl ⟨e1,rfl,e3⟩⟩
    ·exact⟨checks,hX.c,.inr ⟨e1,rfl⟩⟩
   refine⟨_,fun w2 hb=>zdW (hm8.below hb) x.name,biE (fun h5=>?_) fun h5=>?_⟩
   ·have h5:gf x.name=true:=h5;rcases hgf with ⟨e1,rfl,e3⟩ | ⟨e1,rfl⟩
    ·rw [Gz e1,h5,Bool.or_true,Gz rfl] at hR;exact fin hX hR
    ·rw [Gy e1,Gz h5] at hR;exact fin hX hR
   ·have h5:gf x.name=false:=h5;refine⟨(),(cvE rfl rfl),rfl,?_⟩;rcases hgf with ⟨e1,rfl,e3⟩ | ⟨e1,rfl⟩
    ·exact .inl ⟨e1,h5⟩
    ·exact .inr ⟨e1,h5⟩
  rintro _ _ ⟨rfl,hfr⟩;refine⟨_,zc (za fx) (i:=1) rfl,?_⟩;rcases hnb with ⟨e1,rfl,e3⟩ | ⟨e1,rfl⟩
  ·have hf:lets x.name=false:=by rcases hfr with h | h;exact h.2;exact GA e1 h.1
   rw [Gz e1,e3,hf,Uz,Gy Ku] at hR;exact hX.setL x.name fun Y hY _=>nxI (by omega) ⟨(i+1,zdC lets x.name,checks,m),(cvE rfl rfl),⟨hY,hil,hm,hR⟩,by dsimp only;omega⟩
  ·have hf:checks x.name=false:=by rcases hfr with h | h;exact GA h.1 e1;exact h.2
   rw [Gy e1,hf,Gy Ku] at hR;exact hX.setC x.name fun Y hY _=>nxI (by omega) ⟨(i+1,lets,zdC checks x.name,m),(cvE rfl rfl),⟨hY,hil,hm,hR⟩,by dsimp only;omega⟩
 ·have hc:¬ (i:Int)<(ls.length:Int):=dF hc;rw [JA (by omega),qC] at hR;exact⟨lets,n,rb (Gs Prod.fst hR).symm,(fun _ _=>by rw [hR]),hX.p,hX.o,hX.b⟩
end
theorem zh5 (s:Bs):Go.Lib.strCells (bs s)=s.flatMap zW.enc:=by
 have e1:Go.Lib.strCells (bs s)=s.map u8:=rfl;rw [e1]
 induction s with
 | nil=>rfl
 | cons a r ih=>rw [KS,<- ih rfl];rfl
theorem zs9 {w:Wd} {t u ty B cap:Nat} {p:OA} {l:Bs} {iT:TI} (hu:Tryz.prog.underlying t=some (.slice 5)) (hs:Tryz.prog.underlying u=some .string) (hT:TIok PG 5 iT) (hz:iT.zero=some [.int .u8 0]) (h1:iT.size=1) (hby:iT.bytes=1)
  (ho:OwnS zW 5 B w p cap l) (s:Bs) (hl:l.length+s.length<=1000000000) (hB:B<=w.heap.size) {K:Value->Wd->Prop}
  (k:∀ p' cap' w',OwnS zW 5 B w' p' cap' (l++s)->w.grownBy w' (Value.slice p l.length cap).ownBlock->K (.slice p' (l++s).length cap') w') :
  SatR ((Builtin.append_ #[t,u] ty #[.slice p l.length cap,zu s]).run PG w) K:=by
 obtain⟨⟨inf,hi,hsz,hbb,hzz⟩,_⟩:=hT;obtain⟨zv,hzv,hzc⟩:=hzz _ hz;have hz0:zv = .int .u8 0:=by
  have he:inf.zero=some (.int .u8 0):=by
   have:(Tryz.prog.info? 5).bind (fun i=>i.zero)=some (.int .u8 0):=by kernel_rfl
   rw [hi] at this;exact this
  exact Ug (hzv.symm.trans he)
 subst hz0;obtain⟨v',w',hr,ho',hg,_⟩:=Go.Lib.run_append_own_string (P:=PG) w B t u ty 5 inf hu hs hi hzv (hsz.trans h1) (hbb.trans hby) (.slice p l.length cap) l.length (l.flatMap zW.enc) ho (bs s) (by unfold maxLen;show l.length+s.length<=_;omega) (by show l.length+s.length<=_;omega) hB;have e1:l.flatMap zW.enc++Go.Lib.strCells (bs s)=(l++s).flatMap zW.enc:=by
  rw [Kf,zh5]
 have e2:l.length+(bs s).size=(l++s).length:=by rw [lap];rfl
 rw [e1,e2] at ho';refine SatR.mk hr ?_;rcases ho'.2 with ⟨rfl,h0⟩ | ⟨g,cap',cur,rfl,qY⟩
 ·have:K (.slice none (l++s).length 0) w':=k none 0 w' (by unfold OwnS;rw [h0] at ho' ⊢;exact ho') hg;rw [h0] at this;exact this
 ·exact k _ _ w' ho' hg
structure PrB (wb:Nat) (pr:Pr) (X:Wd):Prop where
 f:∃ q cap,X.heap[wb]?=some (.cells #[.slice q pr.text.length cap,i64 (pr.deep:Nat),i64 (pr.most:Nat)] 113 (0,0))/\OwnS zW 5 (wb+1) X q cap pr.text
 og:3<wb
 glob:GlobK X
structure PrS (wb:Nat) (X Y:Wd):Prop where
 os:Y.os=X.os
 tape:Y.tape=X.tape
 output:Y.output=X.output
 size:X.heap.size<=Y.heap.size
 low:∀ j,j<wb->Y.heap[j]?=X.heap[j]?
 block:∀ (j:Nat) (cs:Array Value) (t:TypeId),j≠wb->t≠5->X.heap[j]?=some (.cells cs t (0,0))->Y.heap[j]?=X.heap[j]?
section
variable {wb tb:Nat} {pr pr2:Pr} {w X Y Z:Wd}
theorem PrS.refl:PrS wb X X:=⟨rfl,rfl,rfl,Ge _,fun _ _=>rfl,fun _ _ _ _ _ _=>rfl⟩
theorem PrS.trans (h:PrS wb X Y) (k:PrS wb Y Z):PrS wb X Z :=
 ⟨k.os.trans h.os,k.tape.trans h.tape,k.output.trans h.output,UU h.size k.size,fun j hj=>(k.low j hj).trans (h.low j hj),fun j cs t h1 h2 h3=>(k.block j cs t h1 h2 ((h.block j cs t h1 h2 h3).trans h3)).trans (h.block j cs t h1 h2 h3)⟩
theorem PrS.of_below (h:Bw X Y) (hw:wb<=X.heap.size):PrS wb X Y :=
 ⟨h.os,h.tape,h.output,h.size,fun j hj=>h.block j (by omega),fun j cs t _ _ hc=>h.block j (hlt hc)⟩
theorem PrS.of_grown (h:X.grownBy Y (some wb)) (hw:wb<=X.heap.size):PrS wb X Y :=
 ⟨h.os,h.tape,h.output,h.size,fun j hj=>h.block j (by omega) (by simp;omega),fun j cs t hn _ hc=>h.block j (hlt hc) (by simp;omega)⟩
theorem PrB.lt (h:PrB wb pr X):wb<X.heap.size:=by
 obtain⟨_,_,f,_⟩:=h.f;exact hlt f
theorem PrB.below (h:PrB wb pr X) (hb:Bw X Y):PrB wb pr Y:=by
 obtain⟨q,cap,f,o⟩:=h.f;exact⟨⟨q,cap,zb hb f,o.below hb⟩,h.og,h.glob.below hb⟩
theorem PrB.num (h:PrB wb pr X) {deep most:Nat} {o:Nat} {v:Value} (ho:o=1/\v=i64 (deep:Nat)/\most=pr.most\/o=2/\v=i64 (most:Nat)/\deep=pr.deep) {K:Wd->Prop} (k:∀ Y,PrB wb { pr with deep:=deep,most:=most } Y->PrS wb X Y->K Y) :
  SatR ((storeVar 3 ⟨wb,o,none⟩ v).run PG X) fun _ w'=>K w':=by
 obtain⟨q,cap,f,ow⟩:=h.f;have hw:=hlt f;have key:∀ Y,Y.heap[wb]?=some (.cells #[.slice q pr.text.length cap,i64 (deep:Nat),i64 (most:Nat)] 113 (0,0))->X.grownBy Y (some wb)->K Y:=fun Y fY gY =>
  k Y ⟨⟨q,cap,fY,ow.kept gY fun gg hg e=>by have h5:wb+1<=gg:=(zA ow hg).1;simp at e;omega⟩,h.og,h.glob.grown h.og gY⟩ (.of_grown gY (by omega))
 rcases ho with ⟨rfl,rfl,rfl⟩ | ⟨rfl,rfl,rfl⟩
 ·exact zy k3 f (o:=1) rfl rfl (by show 1<3;decide) rfl fun Y fY gY _=>key Y fY gY
 ·exact zy k3 f (o:=2) rfl rfl (by show 2<3;decide) rfl fun Y fY gY _=>key Y fY gY
theorem zp7 {x y:Int} {T:Array TypeId} {t:TypeId} {w:Wd} {K:Value->Wd->Prop} (k:K (.int .i64 (if x<y then y else x)) w):SatR ((Builtin.max_ T t [Value.int .i64 x,.int .i64 y].toArray).run PG w) K :=
 SatR.mk (v := .int .i64 (if x<y then y else x)) (w':=w) (by simp [Builtin.max_,Builtin.max2]) k
def zmv:List Bs->Nat
 | []=>0
 | s::r=>s.length+zmv r
theorem zoV:∀ (l:List Bs) (i:Nat) (h:i<l.length),zmv (l.drop i)=l[i].length+zmv (l.drop (i+1)):=fun l i h=>by
 rw [Jo h,zmv]
def zrY (pr:Pr) (l:List Bs):Pr:=l.foldl qZ pr
theorem zt6 {l:List Bs} {sb:Nat} (h:PrB wb pr X) (hs:X.heap[sb]?=some (.cells (l.map zu).toArray 9 (0,0))) (hne:sb≠wb) (hl:l.length<=10) (hlen:pr.text.length+zmv l<=1000000) :
  Calls PG 95 #[At0 wb,.slice (some ⟨sb,0,none⟩) l.length l.length] X fun e Y=>e = .returned (j7 [])/\PrB wb (zrY pr l) Y/\PrS wb X Y:=by
 refine zJ 22 [At0 wb,.slice (some ⟨sb,0,none⟩) l.length l.length] Tryz.func95 ?_;obtain⟨R,hR⟩:=nm (zrY pr l);rw [<- hR];refine⟨Nat×Pr,fun y=>⟨[(0,At0 wb),(6,.slice (some ⟨sb,0,none⟩) l.length l.length),(7,i64 (l.length:Nat)),(8,.int .i64 (y.1:Nat))],[]⟩,fun y Y=>PrB wb y.2 Y/\PrS wb X Y/\y.1<=l.length/\R=zrY y.2 (l.drop y.1)/\y.2.text.length+zmv (l.drop y.1)<=1000000,fun y=>l.length-y.1,(0,pr),(cvE rfl rfl),⟨h,.refl,Gg _,hR,hlen⟩,?_⟩;clear hR hlen h;rintro⟨i,pr⟩ Y ⟨hY,sY,hi,hR,hlen⟩;dsimp only at hY hi hR hlen ⊢;have hsY:=(sY.block sb _ _ hne (by decide) hs).trans hs;refine biE (fun hc=>?_) fun hc=>?_
 ·have hc:(i:Int)<(l.length:Int):=dT hc;have hil:i<l.length:=by omega
  refine⟨i,rfl,hil,?_⟩;have hcell:Y.cell? ⟨sb,0+i,none⟩=some (zu l[i]):=zc (za hsY) (by simp [hil]);refine⟨_,by rw [Gf];exact hcell,?_⟩;obtain⟨q,cap,f,ow⟩:=hY.f;have hwY:=hlt f;rw [zoV l i hil] at hlen;refine⟨_,zc (za f) (i:=0) rfl,zs9 Tryz.underlying72 Tryz.underlying9 k5 rfl rfl rfl ow l[i] (by omega) (by omega) fun q2 c2 V oV gV=>?_⟩;have hwV:(Value.slice q pr.text.length cap).ownBlock≠some wb:=fun e=>by
   have:=(QF ow wb e).1;omega
  have fV:V.heap[wb]?=some (.cells #[.slice q pr.text.length cap,i64 (pr.deep:Nat),i64 (pr.most:Nat)] 113 (0,0)):=(gV.block wb hwY hwV.symm).trans f;refine zy k72 fV (o:=0) (v := .slice q2 (pr.text++l[i]).length c2) rfl rfl (by show 0<3;decide) rfl fun Z fZ gZ _=>?_;have lowV:∀ j,j<=wb->V.heap[j]?=Y.heap[j]?:=fun j hj=>gV.block j (by omega) fun e=>by
   have:=(QF ow j e.symm).1;omega
  have sV:PrS wb Y V:=⟨gV.os,gV.tape,gV.output,gV.size,fun j hj=>lowV j (by omega),fun j cs t hn ht hc=>gV.block j (hlt hc) fun e=>by
   rcases q with _ | a
   ·simp [Value.ownBlock] at e
   ·rcases ow.inv with ⟨h0,_⟩ | ⟨gg,cur,h0,_,hg,_⟩
    ·cases h0
    ·cases h0
     simp [Value.ownBlock] at e;subst e;rw [hg] at hc;simp only [KZ,Obj.cells.injEq] at hc;exact ht hc.2.1.symm⟩
  have hV:GlobK V:=⟨zQ (lowV _ (by have:=hY.og;exact UT (KE (by decide) this))) hY.glob.op,zQ (lowV _ (by have:=hY.og;exact UT (KE (by decide) this))) hY.glob.st,zQ (lowV _ (by have:=hY.og;exact UT (KE (by decide) this))) hY.glob.sg,zQ (lowV _ (by have:=hY.og;exact UT (KE (by decide) this))) hY.glob.nd,nL hY.glob.lt gV.size⟩;have hwsz:wb<=V.heap.size:=by have:=gV.size;omega
  refine nxI (by omega) ⟨(i+1,qZ pr l[i]),(cvE rfl rfl),⟨⟨⟨q2,c2,fZ,oV.kept gZ fun gg hg e=>by have h5:wb+1<=gg:=(zA oV hg).1;simp at e;omega⟩,hY.og,hV.grown hY.og gZ⟩,sY.trans (sV.trans (.of_grown gZ hwsz)),hil,?_,?_⟩,by dsimp only;omega⟩
  ·rw [hR,Jo hil];rfl
  ·dsimp only;rw [qM];omega
 ·have hc:¬ (i:Int)<(l.length:Int):=dF hc;rw [JA (by omega)] at hR;exact⟨rfl,by rw [hR];exact hY,sY⟩
theorem zbq {l:List Bs} {n:Nat} (h:PrB wb pr X) (hn:l.length=n) (hl:l.length<=10) (hlen:pr.text.length+zmv l<=1000000) :
  Calls PG 95 #[At0 wb,.slice (some ⟨X.heap.size,0,none⟩) n n] (X.alloc (.cells (l.map zu).toArray 9)) fun e Y=>e = .returned (j7 [])/\PrB wb (zrY pr l) Y/\PrS wb X Y:=by
 subst hn;have hw:=h.lt;refine cmo (zt6 (h.below (zba _ _)) (zz X _) (by omega) hl hlen) ?_;rintro e Y ⟨he,hY,sY⟩;exact⟨he,hY,(PrS.of_below (zba X _) (by omega)).trans sY⟩
structure PrX (w:Wd) (wb tb:Nat) (t:Trm) (q:OA) (cap:Nat) (pr:Pr) (X:Wd):Prop where
 p:PrB wb pr X
 x:X.heap[tb]?=some (.cells (zf t q cap).toArray 24 (0,0))
 k:KidsT (fun b=>b<wb) X q t.kids
 o:PrS wb w X
 ne:tb≠wb
theorem PrX.step {t:Trm} {q:OA} {cap:Nat} (h:PrX w wb tb t q cap pr X) (hY:PrB wb pr2 Y) (s:PrS wb X Y):PrX w wb tb t q cap pr2 Y :=
 ⟨hY,(s.block tb _ _ h.ne (by decide) h.x).trans h.x,h.k.by fun b cs ty fr hb hc=>s.low b hb,h.o.trans s,h.ne⟩
def PrC (wb:Nat) (t:Trm):Prop:=∀ (pr:Pr) (q:OA) (cap:Nat) (X:Wd),PrB wb pr X->KidsT (fun b=>b<wb) X q t.kids->pr.text.length+40*nodesT t<=900000->pr.deep+nodesT t<=1000->pr.most<=1000 ->
 Calls PG 50 #[At0 wb,.agg (zf t q cap).toArray] X fun e Y=>e = .returned (j7 [])/\PrB wb (prT pr t) Y/\PrS wb X Y
theorem zjg {t:Trm} (hv:VT t) (hT:PrC wb t) {least:Nat} (hl6:least<=6) {q:OA} {cap:Nat} (r:List Trm) (h:PrB wb pr w) (hk:KidsT (fun b=>b<wb) w q t.kids) (hlen:pr.text.length+40*nodesT t+8<=900000) (hd:pr.deep+nodesT t+1<=1000) (hm:pr.most<=1000) :
  Calls PG 96 #[At0 wb,.agg (zf t q cap).toArray,i64 (least:Nat)] w fun e Y=>e = .returned (j7 [])/\PrB wb (prHead pr least (t::r)) Y/\PrS wb w Y:=by
 refine qa 56 [At0 wb,.agg (zf t q cap).toArray,i64 (least:Nat)] (.c .p (.s .p (.c .p (.c .p (.c .p (.c .p (.c .p (.c .p .p)))))))) Tryz.func96 ?_;have hw:=h.lt;obtain⟨R,hR⟩:=nm (prHead pr least (t::r));rw [<- hR];rw [prHead] at hR;have hk10:t.kind.toNat<10:=by cases hv;assumption
 refine⟨Unit,fun _=>⟨[(0,At0 wb),(2,i64 (least:Nat)),(4,At0 w.heap.size)],[]⟩,fun _ X=>PrX w wb w.heap.size t q cap pr X,⟨(),(cvE rfl rfl),h.below (zba _ _),zz w _,hk.kept (zba _ _),.of_below (zba _ _) (by omega),by omega⟩,?_⟩;rintro _ X hX;refine⟨_,zc (za hX.x) (i:=0) rfl,t.kind.toNat,rfl,by omega,?_⟩;refine⟨_,by rw [Gf];exact zbt hX.p.glob hk10,?_⟩;have es:zb0.getD t.kind.toNat 0=zdB t.kind.toNat:=by
  have:∀ j:Fin 10,zb0.getD j.1 0=zdB j.1:=by decide
  exact this ⟨_,hk10⟩
 refine⟨Unit,fun _=>⟨[(0,At0 wb),(4,At0 w.heap.size)],[]⟩,fun _ Y=>X=Y/\¬ (zdB t.kind.toNat=0\/zdB t.kind.toNat ≥ least),?_,?_⟩
 ·have good:(zdB t.kind.toNat=0\/zdB t.kind.toNat ≥ least)->∃ us:List Value,us.length=3/\zw X ⟨w.heap.size,0,none⟩ us/\w.heap.size<X.heap.size/\Calls PG 50 #[At0 wb,.agg us.toArray] X fun e Y=>e = .returned (j7 [])/\PrB wb R Y/\PrS wb w Y:=fun hc=>by
   rw [Gz hc] at hR;refine⟨_,rfl,za hX.x,hlt hX.x,cmo (hT pr q cap X hX.p hX.k (by omega) (by omega) (by omega)) ?_⟩;rintro e Y ⟨rfl,hY,sY⟩;exact⟨rfl,by rw [hR];exact hY,hX.o.trans sY⟩
  rw [<- es] at good ⊢;refine biE (fun h1=>?_) fun h1=>?_
  ·have h1:((zb0.getD t.kind.toNat 0:Nat):Int)=0:=dT h1;refine brT ?_;obtain⟨us,u1,u2,u3,u4⟩:=good (.inl (by omega));refine⟨us,u1,u2,u3,cmo u4 ?_⟩;rintro e Y ⟨rfl,hY,sY⟩;exact⟨rfl,hY,sY⟩
  have h1:¬ ((zb0.getD t.kind.toNat 0:Nat):Int)=0:=dF h1;refine biE (fun h2=>?_) fun h2=>?_
  ·have h2:(least:Int)<=((zb0.getD t.kind.toNat 0:Nat):Int):=dT h2;obtain⟨us,u1,u2,u3,u4⟩:=good (.inr (by omega));refine⟨us,u1,u2,u3,cmo u4 ?_⟩;rintro e Y ⟨rfl,hY,sY⟩;exact⟨rfl,hY,sY⟩
  ·have h2:¬ (least:Int)<=((zb0.getD t.kind.toNat 0:Nat):Int):=dF h2;exact⟨(),(cvE rfl rfl),rfl,by rintro (h | h) <;> omega⟩
 rintro _ _ ⟨rfl,hno⟩;rw [Gy hno] at hR;refine⟨Unit,fun _=>⟨[(0,At0 wb),(4,At0 w.heap.size)],[]⟩,fun _ Y=>PrX w wb w.heap.size t q cap { pr with deep:=pr.deep+1 } Y,?_,?_⟩
 ·obtain⟨_,_,f,_⟩:=hX.p.f;exact⟨_,zc (za f) (i:=1) rfl,((pr.deep+1:Nat):Int),(zk (by omega)).trans (by omega),hX.p.num (deep:=pr.deep+1) (most:=pr.most) (.inl ⟨rfl,rfl,rfl⟩) fun Y hY sY=>⟨(),(cvE rfl rfl),hX.step hY sY⟩⟩
 clear hX X;rintro _ X hX;refine⟨Unit,fun _=>⟨[(0,At0 wb),(4,At0 w.heap.size)],[]⟩,fun _ Y=>PrX w wb w.heap.size t q cap { pr with deep:=pr.deep+1,most:=max pr.most (pr.deep+1) } Y,?_,?_⟩
 ·refine DrawE.ord [12] [0,1,2,3,4,5,6,7,8,9,10,11,12] (by kernel_rfl) ?_;have bD:=(Gj X.heap.size X).drew;have hD:=hX.step (hX.p.below bD) (.of_below bD (UT hX.p.lt));obtain⟨_,_,f,_⟩:=hD.p.f;refine⟨_,zc (za f) (i:=2) rfl,?_⟩;refine⟨_,zc (za f) (i:=1) rfl,?_⟩;refine zp7 ?_;have emax:(if ((pr.most:Nat):Int)<((pr.deep+1:Nat):Int) then ((pr.deep+1:Nat):Int) else ((pr.most:Nat):Int))=((max pr.most (pr.deep+1):Nat):Int):=by split <;> omega
  exact⟨Gj _ _,hD.p.num (deep:=pr.deep+1) (most:=max pr.most (pr.deep+1)) (.inr ⟨rfl,Gs (Value.int .i64) emax,rfl⟩) fun Y hY sY=>⟨(),(cvE rfl rfl),hD.step hY sY⟩⟩
 clear hX X;rintro _ X hX;obtain⟨p2,hp2⟩:∃ p2:Pr,p2=qZ { pr with deep:=pr.deep+1,most:=max pr.most (pr.deep+1) } [40]:=⟨_,rfl⟩;rw [<- hp2] at hR;have t2:p2.text.length=pr.text.length+1:=by rw [hp2,qM];rfl
 have d2:p2.deep=pr.deep+1:=by rw [hp2];rfl
 have m2:p2.most=max pr.most (pr.deep+1):=by rw [hp2];rfl
 have npos:=zfX t;refine⟨Unit,fun _=>⟨[(0,At0 wb),(4,At0 w.heap.size)],[]⟩,fun _ Y=>PrX w wb w.heap.size t q cap p2 Y,?_,?_⟩
 ·refine⟨⟨by decide,by decide,rfl⟩,[zu [40]],rfl,cmo (zbq (l:=[[40]]) hX.p rfl (by decide) (by show pr.text.length+(1+0)<=_;omega)) ?_⟩;rintro e Y ⟨rfl,hY,sY⟩;rw [hp2];exact⟨(),(cvE rfl rfl),hX.step hY sY⟩
 clear hX X;rintro _ X hX;have hle:=zdb t hv p2;refine⟨Unit,fun _=>⟨[(0,At0 wb),(4,At0 w.heap.size)],[]⟩,fun _ Y=>PrX w wb w.heap.size t q cap (prT p2 t) Y,?_,?_⟩
 ·refine⟨_,rfl,za hX.x,hlt hX.x,cmo (hT p2 q cap X hX.p hX.k (by omega) (by omega) (by omega)) ?_⟩;rintro e Y ⟨rfl,hY,sY⟩;exact⟨(),(cvE rfl rfl),hX.step hY sY⟩
 clear hX X;rintro _ X hX;obtain⟨l1,l2,l3,l4⟩:=hle;refine⟨Unit,fun _=>⟨[(0,At0 wb),(4,At0 w.heap.size)],[]⟩,fun _ Y=>PrX w wb w.heap.size t q cap (qZ (prT p2 t) [41]) Y,?_,?_⟩
 ·refine⟨⟨by decide,by decide,rfl⟩,[zu [41]],rfl,cmo (zbq (l:=[[41]]) hX.p rfl (by decide) (by show (prT p2 t).text.length+(1+0)<=_;omega)) ?_⟩;rintro e Y ⟨rfl,hY,sY⟩;exact⟨(),(cvE rfl rfl),hX.step hY sY⟩
 clear hX X;rintro _ X hX;obtain⟨_,_,f,_⟩:=hX.p.f;refine⟨_,zc (za f) (i:=1) rfl,?_⟩;have e1:(qZ (prT p2 t) [41]).deep=(prT p2 t).deep:=rfl;exact⟨(((prT p2 t).deep-1:Nat):Int),(zk (by rw [e1];omega)).trans (by rw [e1];omega),hX.p.num (deep:=(prT p2 t).deep-1) (most:=(qZ (prT p2 t) [41]).most) (.inl ⟨rfl,rfl,rfl⟩) fun Y hY sY=>⟨rfl,by rw [hR];exact hY,hX.o.trans sY⟩⟩
end
section
variable {wb tb:Nat} {pr pr2:Pr} {w X Y Z:Wd}
theorem PrX.kid {t:Trm} {q:OA} {cap:Nat} (h:PrX w wb tb t q cap pr X) {i:Nat} (hi:i<t.kids.length) :
  ∃ b o q2 c2,q=some ⟨b,o,none⟩/\zw X ⟨b,o+i*3,none⟩ (zf t.kids[i] q2 c2)/\b<X.heap.size/\KidsT (fun b=>b<wb) X q2 t.kids[i].kids:=by
 obtain⟨_,b,o,hq,hcl⟩:=h.k.inv;obtain⟨q2,c2,_,_,hc,hk⟩:=hcl i hi;refine⟨b,o,q2,c2,by rcases hq with h | h;omega;exact h,hc,?_,hk⟩;have h0:=hc 0 _ rfl;unfold World.cell? at h0
 split at h0
 ·rename_i hb;exact hlt hb
 ·cases h0
theorem zrz {α:Type} {l:List α} (h:l.length=2):l=[l[0],l[1]]:=by
 match l,h with
 | [a,b],_=>rfl
theorem zr3 {α:Type} {l:List α} (h:l.length=1):l=[l[0]]:=by
 match l,h with
 | [a],_=>rfl
theorem zos {l:List Trm} (h:l.length=2):nodesK l=nodesT l[0]+nodesT l[1]:=by
 match l,h with
 | [a,b],_=>rw [nodesK,nodesK,nodesK];rfl
theorem zot {l:List Trm} (h:l.length=1):nodesK l=nodesT l[0]:=by
 match l,h with
 | [a],_=>rw [nodesK,nodesK];rfl
theorem zt7 {k:UInt8} {nq:Bs} {kids:List Trm} (hv:VT (.mk k nq kids)) (ih:∀ x∈kids,PrC wb x):PrC wb (.mk k nq kids):=by
 intro pr q cap w h hkd hlen hdp hms;refine qa 67 [At0 wb,.agg (zf (.mk k nq kids) q cap).toArray] (.c .p (.s .p (.b (.s .p (.d .p (.s .p (.d .p (.c .p (.d (.c .p .p) (.c .p (.c .p (.c .p .p)))))))))))) Tryz.func50 ?_;obtain⟨hk10,hkl,hnl,hkv⟩:=hv.inv;have hle0:=zdb _ hv pr;obtain⟨R,hR⟩:=nm (prT pr (.mk k nq kids));rw [<- hR] at hle0 ⊢;rw [prT] at hR;rw [nodesT] at hlen hdp;have hw:=h.lt;have nk:∀ m:UInt8,decide ((k.toNat:Int)=(m.toNat:Int))=decide (k=m):=fun m=>jb k m;refine⟨Unit,fun _=>⟨[(0,At0 wb),(3,At0 w.heap.size)],[]⟩,fun _ X=>PrX w wb w.heap.size (.mk k nq kids) q cap pr X,⟨(),(cvE rfl rfl),h.below (zba _ _),zz w _,hkd.kept (zba _ _),.of_below (zba _ _) (by omega),by omega⟩,?_⟩;rintro _ X hX;refine⟨_,zc (za hX.x) (i:=0) rfl,biE (fun h1=>?_) fun h1=>?_⟩
 ·have h1:k=1:=dT ((nk 1).symm.trans h1);rw [Gz h1] at hR;refine⟨_,zc (za hX.x) (i:=1) rfl,⟨by decide,by decide,rfl⟩,[zu nq],rfl,cmo (zbq (l:=[nq]) hX.p rfl (by show 1<=10;decide) (by show pr.text.length+(nq.length+0)<=_;omega)) ?_⟩;rintro e Y ⟨rfl,hY,sY⟩;exact⟨rfl,by rw [hR];exact hY,hX.o.trans sY⟩
 have h1:k≠1:=dF ((nk 1).symm.trans h1);rw [Gy h1] at hR;refine biE (fun h9=>?_) fun h9=>?_
 ·have h9:k=9:=dT ((nk 9).symm.trans h9);rw [Gz h9] at hR;refine⟨_,zc (za hX.x) (i:=1) rfl,⟨by decide,by decide,rfl⟩,[zu [91],zu nq,zu [93]],rfl,cmo (zbq (l:=[[91],nq,[93]]) hX.p rfl (by show 3<=10;decide) (by show pr.text.length+(1+(nq.length+(1+0)))<=_;omega)) ?_⟩;rintro e Y ⟨rfl,hY,sY⟩;exact⟨rfl,by rw [hR];exact hY,hX.o.trans sY⟩
 have h9:k≠9:=dF ((nk 9).symm.trans h9);rw [Gy h9] at hR;refine⟨Bool,fun b=>⟨[(0,At0 wb),(3,At0 w.heap.size),(47,.bool b)],[]⟩,fun b Y=>X=Y/\(b=true->k=6\/k=7\/k=8)/\(b=false->¬ (k=6\/k=7\/k=8)),?_,?_⟩
 ·refine biE (fun h6=>?_) fun h6=>?_
  ·have h6':k=6:=dT ((nk 6).symm.trans h6);exact⟨true,⟨.cons rfl (.cons rfl (.cons (Gs (fun b=>some (Value.bool b)) h6) .nil)),rfl⟩,rfl,fun _ => .inl h6',fun h=>GA h (by decide)⟩
  have h6':k≠6:=dF ((nk 6).symm.trans h6);refine biE (fun h7=>?_) fun h7=>?_
  ·have h7':k=7:=dT ((nk 7).symm.trans h7);exact⟨true,⟨.cons rfl (.cons rfl (.cons (Gs (fun b=>some (Value.bool b)) h7) .nil)),rfl⟩,rfl,fun _ => .inr (.inl h7'),fun h=>GA h (by decide)⟩
  have h7':k≠7:=dF ((nk 7).symm.trans h7);refine⟨decide (k=8),⟨.cons rfl (.cons rfl (.cons (Gs (fun b=>some (Value.bool b)) (nk 8)) .nil)),rfl⟩,rfl,fun h => .inr (.inr (dT h)),fun h=>?_⟩;have h:=dF h;rintro (e | e | e)
  ·exact h6' e
  ·exact h7' e
  ·exact h e
 rintro b _ ⟨rfl,hbt,hbf⟩;refine biE (fun hb=>?_) fun hb=>?_
 ·
  have h68:=hbt hb;rw [Gz h68] at hR;have hl1:kids.length=1:=by
   rcases h68 with rfl | rfl | rfl
   all_goals
    have:(kids.length:Int)=1:=hkl;omega
  have hk0:0<(Trm.mk k nq kids).kids.length:=by show 0<kids.length;omega
  obtain⟨bk,o,q2,c2,rfl,hc,hbs,hk2⟩:=hX.kid hk0;have hc:zw X ⟨bk,o+0*3,none⟩ (zf kids[0] q2 c2):=hc;have hk2:KidsT (fun b=>b<wb) X q2 kids[0].kids:=hk2;have em:=zr3 hl1;have en:=zot hl1;have hv0:=hkv kids[0] (gM _);have hh:prHead pr 5 kids=prHead pr 5 (kids[0]::[]):=Gs (prHead pr 5) em;refine⟨Unit,fun _=>⟨[(0,At0 wb),(3,At0 w.heap.size)],[]⟩,fun _ Y=>PrX w wb w.heap.size (.mk k nq kids) (some ⟨bk,o,none⟩) cap (prHead pr 5 kids) Y,?_,?_⟩
  ·refine DrawE.ord [8] [0,1,2,3,4,5,6,7,8] (by kernel_rfl) ?_;have bD:=(Gj X.heap.size X).drew;have hD:=hX.step (hX.p.below bD) (.of_below bD (UT hX.p.lt));refine⟨_,zc (za hD.x) (i:=2) rfl,0,rfl,by show 0<kids.length;omega,?_⟩;refine⟨zf kids[0] q2 c2,rfl,zt bD hc,hbs,5,rfl,by decide,?_⟩;refine⟨_,zbt hD.p.glob (k:=5) (by decide),((5:Nat):Int),(zk (by decide)).trans rfl,cmo (zjg hv0 (ih kids[0] (gM _)) (least:=5) (by decide) [] hD.p (hk2.kept bD) (by omega) (by omega) (by omega)) ?_⟩;rintro e Y ⟨rfl,hY,sY⟩;rw [<- hh] at hY;exact⟨(),(cvE rfl rfl),hD.step hY sY⟩
  clear hX hc hbs hk2;rintro _ Y hY;have hhl:=zfz (fun w=>zdb kids[0] hv0 w) pr 5 [];rw [<- hh] at hhl;have hsl:=ze5 k.toNat;refine⟨_,zc (za hY.x) (i:=0) rfl,k.toNat,rfl,by omega,?_⟩;refine⟨_,by rw [Gf];exact zgK hY.p.glob hk10,?_⟩;refine⟨⟨by decide,by decide,rfl⟩,[zu (jY.getD k.toNat [])],rfl,cmo (zbq (l:=[jY.getD k.toNat []]) hY.p rfl (by show 1<=10;decide) (by show (prHead pr 5 kids).text.length+((ze6 k.toNat).length+0)<=_;omega)) ?_⟩;rintro e Z ⟨rfl,hZ,sZ⟩;exact⟨rfl,by rw [hR];exact hZ,hY.o.trans sZ⟩
 ·
  have h68:=hbf hb;rw [Gy h68] at hR;have hl2:kids.length=2/\2<=k.toNat/\k.toNat<=5:=by
   have key:∀ j:Fin 10,j.1≠1->j.1≠9->j.1≠6->j.1≠7->j.1≠8->jG j.1=2/\2<=j.1/\j.1<=5\/jG j.1 = -1:=by decide
   have nk:∀ (m:UInt8),k≠m->k.toNat≠m.toNat:=fun m h e=>h (Uh.1 e);rcases key ⟨k.toNat,hk10⟩ (nk 1 h1) (nk 9 h9) (nk 6 (fun e=>h68 (.inl e))) (nk 7 (fun e=>h68 (.inr (.inl e)))) (nk 8 (fun e=>h68 (.inr (.inr e)))) with h | h
   ·have h':jG k.toNat=2:=h.1;exact⟨by omega,h.2⟩
   ·have h:jG k.toNat = -1:=h;omega
  obtain⟨hl2,hk2',hk5⟩:=hl2;have es:zb0.getD k.toNat 0=zdB k.toNat/\zdB k.toNat<=4:=by
   have:∀ j:Fin 10,zb0.getD j.1 0=zdB j.1/\zdB j.1<=4:=by decide
   exact this ⟨_,hk10⟩
  obtain⟨es,es4⟩:=es;have em:=zrz hl2;have en:=zos hl2;have hv0:=hkv kids[0] (gM _);have hv1:=hkv kids[1] (gM _);obtain⟨n,hn⟩:=nm (zdB k.toNat);rw [<- hn] at hR es es4;have hh:prHead pr n kids=prHead pr n (kids[0]::[kids[1]]):=Gs (prHead pr n) em;have hhl:=zfz (fun w=>zdb kids[0] hv0 w) pr n [kids[1]];rw [<- hh] at hhl;have hsl:=ze5 k.toNat;obtain⟨a1,a2,a3,a4⟩:=hhl;refine⟨Unit,fun _=>⟨[(0,At0 wb),(3,At0 w.heap.size),(4,i64 (n:Nat))],[]⟩,fun _ Y=>X=Y,?_,?_⟩
  ·refine⟨_,zc (za hX.x) (i:=0) rfl,k.toNat,rfl,by omega,?_⟩;have hsa:=zbt hX.p.glob hk10;rw [es] at hsa;refine⟨_,by rw [Gf];exact hsa,?_⟩;exact⟨(),(cvE rfl rfl),rfl⟩
  rintro _ _ rfl;refine⟨Unit,fun _=>⟨[(0,At0 wb),(3,At0 w.heap.size),(4,i64 (n:Nat))],[]⟩,fun _ Y=>PrX w wb w.heap.size (.mk k nq kids) q cap (prHead pr n kids) Y,?_,?_⟩
  ·have hk0:0<(Trm.mk k nq kids).kids.length:=by show 0<kids.length;omega
   obtain⟨bk,o,q2,c2,rfl,hc,hbs,hk2⟩:=hX.kid hk0;have hc:zw X ⟨bk,o+0*3,none⟩ (zf kids[0] q2 c2):=hc;have hk2:KidsT (fun b=>b<wb) X q2 kids[0].kids:=hk2;refine⟨_,zc (za hX.x) (i:=2) rfl,0,rfl,by show 0<kids.length;omega,?_⟩;refine⟨zf kids[0] q2 c2,rfl,hc,hbs,cmo (zjg hv0 (ih kids[0] (gM _)) (least:=n) (by omega) [kids[1]] hX.p hk2 (by omega) (by omega) (by omega)) ?_⟩;rintro e Y ⟨rfl,hY,sY⟩;rw [<- hh] at hY;exact⟨(),(cvE rfl rfl),hX.step hY sY⟩
  clear hX;rintro _ Y hY;obtain⟨p3,hp3⟩:=nm (qZ (qZ (qZ (prHead pr n kids) [32]) (ze6 k.toNat)) [32]);rw [<- hp3] at hR;have t3:p3.text.length=(prHead pr n kids).text.length+1+(ze6 k.toNat).length+1:=by rw [hp3,qM,qM,qM];rfl
  have d3:p3.deep=pr.deep:=by rw [hp3];exact a2
  have m3:p3.most=(prHead pr n kids).most:=by rw [hp3];rfl
  refine⟨Unit,fun _=>⟨[(0,At0 wb),(3,At0 w.heap.size),(4,i64 (n:Nat))],[]⟩,fun _ Y=>PrX w wb w.heap.size (.mk k nq kids) q cap p3 Y,?_,?_⟩
  ·refine⟨_,zc (za hY.x) (i:=0) rfl,k.toNat,rfl,by omega,?_⟩;refine⟨_,by rw [Gf];exact zgK hY.p.glob hk10,?_⟩;refine⟨⟨by decide,by decide,rfl⟩,[zu [32],zu (jY.getD k.toNat []),zu [32]],rfl,cmo (zbq (l:=[[32],jY.getD k.toNat [],[32]]) hY.p rfl (by show 3<=10;decide) (by show (prHead pr n kids).text.length+(1+((ze6 k.toNat).length+(1+0)))<=_;omega)) ?_⟩;rintro e Z ⟨rfl,hZ,sZ⟩;have hZ:PrB wb p3 Z:=by rw [hp3];exact hZ
   exact⟨(),(cvE rfl rfl),hY.step hZ sZ⟩
  clear hY Y;rintro _ Y hY;have hk1:1<(Trm.mk k nq kids).kids.length:=by show 1<kids.length;omega
  obtain⟨bk,o,q2,c2,rfl,hc,hbs,hk2⟩:=hY.kid hk1;have hc:zw Y ⟨bk,o+1*3,none⟩ (zf kids[1] q2 c2):=hc;have hk2:KidsT (fun b=>b<wb) Y q2 kids[1].kids:=hk2;refine⟨_,zc (za hY.x) (i:=2) rfl,1,rfl,by show 1<kids.length;omega,?_⟩;refine⟨zf kids[1] q2 c2,rfl,hc,hbs,nxI (by omega) (cmo (zjg hv1 (ih kids[1] (gM _)) (least:=n+1) (by omega) [] hY.p hk2 (by omega) (by omega) (by omega)) ?_)⟩;rintro e Z ⟨rfl,hZ,sZ⟩;refine⟨rfl,?_,hY.o.trans sZ⟩;rw [hR,show prTail p3 (n+1) kids=prTail p3 (n+1) [kids[0],kids[1]] from Gs (prTail p3 (n+1)) em,prTail];exact hZ
theorem zpO:∀ t,VT t->PrC wb t
 | .mk k nq kids,hv=>zt7 hv fun x hx=>zpO x (hv.inv.2.2.2 x hx)
end
end Go.Proofs.YtnadlhpkpnfmbaaGreatDoor
namespace Go.Proofs.YtnadlhpkpnfmbaaGreatDoor
open Go.Vc
def zcx:List LineD->Nat
 | []=>0
 | x::r=>nodesT x.term+zcx r
theorem zou {s:Bs} (h:zcU s=true):s.length<=16:=by
 unfold zcU at h;rw [bAT,bAT] at h;exact dT h.2.1
theorem zpx {f:Bs->Bool} {nq:Bs} (h:∀ s,f s=true->s.length<=16) (hn:nq.length<=16):∀ s,zdC f nq s=true->s.length<=16:=fun s hs=>by
 unfold zdC at hs;rw [QI] at hs;rcases hs with hs | hs
 ·rw [dT hs];exact hn
 ·exact h s hs
theorem zdX:∀ (ls:List LineD) (lets checks:Bs->Bool) (n:Nat) (lets':Bs->Bool),(∀ s,lets s=true->s.length<=16)->n<=400->qC lets checks n ls=(true,lets') ->
  (∀ x∈ls,x.kind<=3/\x.name.length<=16/\VT x.term)/\n+zcx ls<=400/\(∀ s,lets' s=true->s.length<=16)
 | [],lets,checks,n,lets',hl,hn,h=>by
  rw [qC] at h;refine⟨fun x hx=>?_,by rw [zcx];exact hn,?_⟩
  ·cases hx
  ·rw [<- (Gh h).2];exact hl
 | l::r,lets,checks,n,lets',hl,hn,h=>by
  rw [qC] at h
  split at h
  ·cases h
  ·rename_i hc;have hk:l.kind<=3:=Jn fun h=>hc (.inl (by omega));have hnm:zcU l.name=true:=by
    cases hnb:zcU l.name with
    | true=>rfl
    | false=>exact GA (.inr hnb) hc
   have hnl:=zou hnm
   split at h
   ·cases h
   ·rename_i n2 e;obtain⟨hv,hn2⟩:=ziT lets hl l.term n n2 e;have hm:=(zhR lets n l.term).2 (by rw [e]);rw [e] at hm;have hm:n2<=400:=hm;have fin:∀ {a b:Bs->Bool},(∀ s,a s=true->s.length<=16)->qC a b n2 r=(true,lets')->(∀ x∈l::r,x.kind<=3/\x.name.length<=16/\VT x.term)/\n+zcx (l::r)<=400/\(∀ s,lets' s=true->s.length<=16):=fun {a b} ha hr=>by
     obtain⟨i1,i2,i3⟩:=zdX r a b n2 lets' ha hm hr;refine⟨fun x hx=>?_,by rw [zcx];omega,i3⟩;rcases UG.1 hx with rfl | hx
     ·exact⟨hk,hnl,hv⟩
     ·exact i1 x hx
    split at h
    ·split at h
     ·cases h
     ·exact fin (zpx hl hnl) h
    ·split at h
     ·cases h
     ·exact fin hl h
end Go.Proofs.YtnadlhpkpnfmbaaGreatDoor
namespace Go.Proofs.YtnadlhpkpnfmbaaGreatDoor
open Go.Vc Go.RowKit Go.Sei
theorem zku (k:Nat):(qg.getD k []).length<=11:=by
 rcases Nat.lt_or_ge k 4 with h | h
 ·have:∀ j:Fin 4,(qg.getD j.1 []).length<=11:=by decide
  exact this ⟨k,h⟩
 ·rw [gDe,JJ (by simpa [qg] using h)];decide
theorem zoj {l:LineD} (hv:VT l.term) (hn:l.name.length<=16) (w:Pr):(zb7 w l).text.length<=w.text.length+24*nodesT l.term+60/\(zb7 w l).deep=w.deep/\(zb7 w l).most<=max w.most (w.deep+nodesT l.term):=by
 have ho:=zku l.kind;unfold zb7;dsimp only
 split
 ·obtain⟨h1,h2,h3,h4⟩:=zdb l.term hv (qZ (qZ (qZ (qZ w (qg.getD l.kind [])) [32]) l.name) [32,61,32]);simp only [qM,Qs,QR] at h1 ⊢;exact⟨by omega,h2,h3⟩
 ·obtain⟨h1,h2,h3,h4⟩:=zdb l.term hv (qZ (qZ w (qg.getD l.kind [])) [32]);simp only [qM,Qs,QR] at h1 ⊢;exact⟨by omega,h2,h3⟩
section
variable {wb lb:Nat} {pr pr2:Pr} {w X Y Z:Wd}
structure PrL (w:Wd) (wb lb:Nat) (ln:LineD) (q:OA) (cap:Nat) (pr:Pr) (X:Wd):Prop where
 p:PrB wb pr X
 x:X.heap[lb]?=some (.cells (zC ln.kind ln.name ln.term q cap).toArray 49 (0,0))
 k:KidsT (fun b=>b<wb) X q ln.term.kids
 o:PrS wb w X
 ne:lb≠wb
theorem PrL.step {x:LineD} {q:OA} {cap:Nat} (h:PrL w wb lb x q cap pr X) (hY:PrB wb pr2 Y) (s:PrS wb X Y):PrL w wb lb x q cap pr2 Y :=
 ⟨hY,(s.block lb _ _ h.ne (by decide) h.x).trans h.x,h.k.by fun b cs ty fr hb hc=>s.low b hb,h.o.trans s,h.ne⟩
theorem zoo (hg:GlobK w) {k:Nat} (hk:k<=3):w.cell? ⟨3,0+k,none⟩=some (zu (qg.getD k [])):=by
 refine zc hg.op ?_;have hk:k<qg.length:=by show k<4;omega
 rw [KU,gE hk,gDe,gE hk];rfl
theorem zpP {x:LineD} (hv:VT x.term) (hn:x.name.length<=16) (hk3:x.kind<=3) {q:OA} {cap:Nat} (h:PrB wb pr w) (hk:KidsT (fun b=>b<wb) w q x.term.kids) (hlen:pr.text.length+40*nodesT x.term+100<=900000) (hd:pr.deep+nodesT x.term<=1000) (hm:pr.most<=1000) :
  Calls PG 92 #[At0 wb,.agg (zC x.kind x.name x.term q cap).toArray] w fun e Y=>e = .returned (j7 [])/\PrB wb (zb7 pr x) Y/\PrS wb w Y:=by
 refine qa 35 [At0 wb,.agg (zC x.kind x.name x.term q cap).toArray] (.c .p (.c .p (.c (.s .p (.d (.c .p .p) (.c .p .p))) .p))) Tryz.func92 ?_;have hw:=h.lt;have hol:=zku x.kind;obtain⟨R,hR⟩:=nm (zb7 pr x);rw [<- hR];unfold zb7 at hR;dsimp only at hR;refine⟨Unit,fun _=>⟨[(0,At0 wb),(3,At0 w.heap.size)],[]⟩,fun _ X=>PrL w wb w.heap.size x q cap pr X,⟨(),(cvE rfl rfl),h.below (zba _ _),zz w _,hk.kept (zba _ _),.of_below (zba _ _) (by omega),by omega⟩,?_⟩;rintro _ X hX;obtain⟨p1,hp1⟩:=nm (qZ (qZ pr (qg.getD x.kind [])) [32]);rw [<- hp1] at hR;have t1:p1.text.length=pr.text.length+(qg.getD x.kind []).length+1:=by rw [hp1,qM,qM];rfl
 have d1:p1.deep=pr.deep:=by rw [hp1];rfl
 have m1:p1.most=pr.most:=by rw [hp1];rfl
 refine⟨Unit,fun _=>⟨[(0,At0 wb),(3,At0 w.heap.size)],[]⟩,fun _ X=>PrL w wb w.heap.size x q cap p1 X,?_,?_⟩
 ·refine⟨_,zc (za hX.x) (i:=0) rfl,x.kind,rfl,by omega,?_⟩;refine⟨_,by rw [Gf];exact zoo hX.p.glob hk3,?_⟩;refine⟨⟨by decide,by decide,rfl⟩,[zu (qg.getD x.kind []),zu [32]],rfl,cmo (zbq (l:=[qg.getD x.kind [],[32]]) hX.p rfl (by show 2<=10;decide) (by show pr.text.length+((qg.getD x.kind []).length+(1+0))<=_;omega)) ?_⟩;rintro e Y ⟨rfl,hY,sY⟩;have hY:PrB wb p1 Y:=by rw [hp1];exact hY
  exact⟨(),(cvE rfl rfl),hX.step hY sY⟩
 clear hX X;rintro _ X hX;refine⟨Pr,fun _=>⟨[(0,At0 wb)],[]⟩,fun p2 X=>PrB wb p2 X/\PrS wb w X/\R=qZ p2 [10]/\p2.text.length<=950000,?_,?_⟩
 ·have ht:∀ {Z:Wd} {pz:Pr},PrL w wb w.heap.size x q cap pz Z->zw Z ⟨w.heap.size,0+2,none⟩ (zf x.term q cap):=fun {Z pz} hZ=>jD (o:=2) (n:=3) hZ.x;refine⟨_,zc (za hX.x) (i:=0) rfl,biE (fun h1=>?_) fun h1=>?_⟩
  ·have h1:(x.kind:Int)=0:=dT h1;rw [Gz (by omega)] at hR;obtain⟨p2,hp2⟩:=nm (qZ (qZ p1 x.name) [32,61,32]);rw [<- hp2] at hR;have t2:p2.text.length=p1.text.length+x.name.length+3:=by rw [hp2,qM,qM];rfl
   have d2:p2.deep=p1.deep:=by rw [hp2];rfl
   have m2:p2.most=p1.most:=by rw [hp2];rfl
   refine⟨Unit,fun _=>⟨[(0,At0 wb),(3,At0 w.heap.size)],[]⟩,fun _ X=>PrL w wb w.heap.size x q cap p2 X,?_,?_⟩
   ·refine⟨_,zc (za hX.x) (i:=1) rfl,⟨by decide,by decide,rfl⟩,[zu x.name,zu [32,61,32]],rfl,cmo (zbq (l:=[x.name,[32,61,32]]) hX.p rfl (by show 2<=10;decide) (by show p1.text.length+(x.name.length+(3+0))<=_;omega)) ?_⟩;rintro e Y ⟨rfl,hY,sY⟩;have hY:PrB wb p2 Y:=(by rw [hp2];exact hY);exact⟨(),(cvE rfl rfl),hX.step hY sY⟩
   clear hX X;rintro _ X hX;have hle:=zdb x.term hv p2;refine⟨zf x.term q cap,rfl,ht hX,hlt hX.x,cmo (zpO x.term hv p2 q cap X hX.p hX.k (by omega) (by omega) (by omega)) ?_⟩;rintro e Y ⟨rfl,hY,sY⟩;exact⟨prT p2 x.term,(cvE rfl rfl),hY,hX.o.trans sY,hR,by have:=hle.1;omega⟩
  ·have h1:¬ (x.kind:Int)=0:=dF h1;rw [Gy (by omega)] at hR;have hle:=zdb x.term hv p1;refine⟨Unit,fun _=>⟨[(0,At0 wb),(3,At0 w.heap.size)],[]⟩,fun _ X=>PrL w wb w.heap.size x q cap (prT p1 x.term) X,?_,?_⟩
   ·refine⟨zf x.term q cap,rfl,ht hX,hlt hX.x,cmo (zpO x.term hv p1 q cap X hX.p hX.k (by omega) (by omega) (by omega)) ?_⟩;rintro e Y ⟨rfl,hY,sY⟩;exact⟨(),(cvE rfl rfl),hX.step hY sY⟩
   clear hX X;rintro _ X hX;have l1:=hle.1;refine⟨_,zc (za hX.x) (i:=1) rfl,⟨by decide,by decide,rfl⟩,[zu [32,97,115,32],zu x.name],rfl,cmo (zbq (l:=[[32,97,115,32],x.name]) hX.p rfl (by show 2<=10;decide) (by show (prT p1 x.term).text.length+(4+(x.name.length+0))<=_;omega)) ?_⟩;rintro e Y ⟨rfl,hY,sY⟩;exact⟨qZ (qZ (prT p1 x.term) [32,97,115,32]) x.name,(cvE rfl rfl),hY,hX.o.trans sY,hR,by rw [qM,qM];show (prT p1 x.term).text.length+4+x.name.length<=_;omega⟩
 clear hX X;rintro p2 X ⟨hX,sX,hR,hl2⟩;refine⟨⟨by decide,by decide,rfl⟩,[zu [10]],rfl,cmo (zbq (l:=[[10]]) hX rfl (by decide) (by show p2.text.length+(1+0)<=_;omega)) ?_⟩;rintro e Y ⟨rfl,hY,sY⟩;exact⟨rfl,by rw [hR];exact hY,sX.trans sY⟩
def zw1 (r:Option (Bs×(Bs->Bool))) (w:Wd) (e:Ending) (w':Wd):Prop :=
 Bw w w'/\(r=none->e = .returned (.tuple #[zu [],.map none,.bool false]))/\∀ x,r=some x->∃ l,e = .returned (.tuple #[zu x.1,.map (some l),.bool true])/\MapF zbQ w' l (zft x.2)/\w.heap.size<=l
theorem PrS.below (h:PrS wb X Y) (hw:w.heap.size<=wb):Below w.heap.size X Y:=⟨h.os,h.tape,h.output,h.size,fun j hj=>h.low j (by omega)⟩
theorem ztA {ls:List LineD} {p:OA} {cap:Nat} (hg:GlobK w) (hM:LinsM (fun _=>True) w p ls) (hlen:ls.length<=140737488351232) :
  Calls PG 48 #[.agg #[.slice p ls.length cap]] w (zw1 (jN ls) w):=by
 refine qa 43 [.agg #[.slice p ls.length cap]] (.c .p (.c .p (.c .p (.c .p (.c (.s .p (.b (.l (.s .p (.s .p (.s (.b (.c .p .p)) .p)))))) (.c .p .p)))))) Tryz.func48 ?_;obtain⟨R,hR⟩:=nm (jN ls);rw [<- hR];unfold jN at hR;have hgl:=hg.lt;refine⟨Unit,fun _=>⟨[(1,At0 w.heap.size)],[]⟩,fun _ X=>X.heap[w.heap.size]?=some (.cells #[.slice p ls.length cap] 47 (0,0))/\Bw w X/\X.heap.size=w.heap.size+1,⟨(),(cvE rfl rfl),zz w _,zba _ _,wz _ _⟩,?_⟩;rintro _ X ⟨f1,b1,n1⟩;refine⟨Unit,fun _=>⟨[(1,At0 w.heap.size),(5,At0 (w.heap.size+2))],[]⟩,fun _ X=>X.heap[w.heap.size]?=some (.cells #[.slice p ls.length cap] 47 (0,0))/\Bw w X/\ChkB (w.heap.size+2) (w.heap.size+1) (fun _=>false) 0 X,?_,?_⟩
 ·refine⟨Value.map (some X.heap.size),X.alloc (.map #[] 0),rfl,?_⟩;have m3:MapF (key:=zbQ) (X.alloc (.map #[] 0)) X.heap.size (fun (_:Bs)=>none):=MapF.new;obtain⟨Y,e3⟩:=nm (X.alloc (.map #[] 0));have n3:Y.heap.size=w.heap.size+2:=by rw [e3,wz,n1]
  have b3:Bw X Y:=by rw [e3];exact zba _ _
  rw [<- e3] at m3 ⊢;refine⟨[.map (some X.heap.size),i64 0],rfl,?_⟩;have f5:=zz Y (.cells #[.map (some X.heap.size),i64 0] 110);have b5:=zba Y (.cells #[.map (some X.heap.size),i64 0] 110);have bAll:=zst b1 (zst b3 b5);refine⟨(),⟨.cons rfl (.cons ?_ .nil),rfl⟩,?_⟩
  ·show some (At0 Y.heap.size)=_;rw [n3]
  show _/\_;rw [n3] at f5;rw [n1] at f5 b5 m3 bAll ⊢;exact⟨zb b5 (zb b3 f1),bAll,f5,m3.below b5,by omega,by omega,by omega,hg.below bAll⟩
 clear f1 b1 n1 X;rintro _ X ⟨f1,b1,hC⟩;have none_:∀ {Z:Wd},R=none->Bw w Z->zw1 R w (.returned (.tuple #[zu [],.map none,.bool false])) Z:=fun {Z} hR hb=>⟨hb,fun _=>rfl,fun x hx=>by rw [hR] at hx;cases hx⟩;refine⟨(Bs->Bool)×Nat,fun _=>⟨[(1,At0 w.heap.size),(5,At0 (w.heap.size+2))],[]⟩,fun y X=>X.heap[w.heap.size]?=some (.cells #[.slice p ls.length cap] 47 (0,0))/\Bw w X/\ChkB (w.heap.size+2) (w.heap.size+1) y.1 y.2 X/\ls.length<=40/\qC (fun _=>false) (fun _=>false) 0 ls=(true,y.1),?_,?_⟩
 ·refine⟨_,zc (za f1) (i:=0) rfl,cmo (zsf (w0:=w) (cap:=cap) hM hlen hC (Gg _) b1 (by omega) (by omega)) ?_⟩;rintro e Y ⟨lets',m,rfl,hl,hY,oY,bY⟩;have fY:=(oY.block _ (hlt f1) (by omega) (by omega) (by omega)).trans f1;refine biE (fun h=>?_) fun h=>?_
  ·have h:(!(decide (ls.length<=40)&&(qC (fun _=>false) (fun _=>false) 0 ls).1))=true:=h;refine none_ ?_ bY;rw [hR];by_cases h4:ls.length > 40
   ·rw [Gz h4]
   ·rw [Gy h4];rw [Uu (by omega),UA] at h;rcases hc:qC (fun _=>false) (fun _=>false) 0 ls with ⟨b,lets⟩;rw [hc] at h
    cases b with
    | true=>cases h
    | false=>rfl
  ·have h:(!(decide (ls.length<=40)&&(qC (fun _=>false) (fun _=>false) 0 ls).1))=false:=h;have h:(decide (ls.length<=40)&&(qC (fun _=>false) (fun _=>false) 0 ls).1)=true:=by simpa using h
   rw [bAT,dE] at h;refine⟨(lets',m),(cvE rfl rfl),fY,bY,hY,h.1,?_⟩;rw [hl h.1 h.2,<- h.2]
 clear f1 b1 hC X;rintro⟨lets,m⟩ X ⟨f1,b1,hC,h40,hcl⟩;dsimp only at hC hcl ⊢;rw [Gy (by omega),hcl] at hR;dsimp only at hR;obtain⟨hval,hnod,hshort⟩:=zdX ls _ _ 0 lets (fun s h=>by cases h) (by decide) hcl;obtain⟨rows,hrl,zcI,hrk,_⟩:=hM;have hrn:rows.length=ls.length:=by rw [<- hrl,QQ]
 have hkb:=hC.lt;refine⟨Nat,fun wb=>⟨[(1,At0 w.heap.size),(5,At0 (w.heap.size+2)),(6,At0 wb)],[]⟩,fun wb X=>X.heap[w.heap.size]?=some (.cells #[.slice p ls.length cap] 47 (0,0))/\Bw w X/\ChkB (w.heap.size+2) (w.heap.size+1) lets m X/\PrB wb ⟨[],0,0⟩ X/\w.heap.size+2<wb,?_,?_⟩
 ·exact⟨X.heap.size,(cvE rfl rfl),zb (zba _ _) f1,b1.trans ((zba X _).mono b1.size),hC.below (zba _ _),⟨⟨none,0,zz X _,.nil⟩,by omega,hC.glob.below (zba _ _)⟩,hkb⟩
 clear f1 b1 hC hkb X;rintro wb X ⟨f1,b1,hC,hP,hwb⟩;obtain⟨W,hW⟩:=nm (ls.foldl zb7 ⟨[],0,0⟩);rw [<- hW] at hR;refine⟨Unit,fun _=>⟨[(5,At0 (w.heap.size+2)),(6,At0 wb)],[]⟩,fun _ X=>Bw w X/\ChkB (w.heap.size+2) (w.heap.size+1) lets m X/\PrB wb W X,?_,?_⟩
 ·refine⟨_,zc (za f1) (i:=0) rfl,Nat×Pr,fun y=>⟨[(5,At0 (w.heap.size+2)),(6,At0 wb),(18,.slice p ls.length cap),(19,i64 (ls.length:Nat)),(20,.int .i64 (y.1:Nat))],[]⟩,fun y X=>Bw w X/\ChkB (w.heap.size+2) (w.heap.size+1) lets m X/\PrB wb y.2 X/\y.1<=ls.length/\W=(ls.drop y.1).foldl zb7 y.2/\y.2.text.length+24*zcx (ls.drop y.1)+60*(ls.length-y.1)<=13000/\y.2.deep=0/\y.2.most<=600,fun y=>ls.length-y.1,(0,⟨[],0,0⟩),(cvE rfl rfl),⟨b1,hC,hP,Gg _,hW,?_,rfl,Gg _⟩,?_⟩
  ·show 0+24*zcx ls+60*(ls.length-0)<=13000;omega
  clear f1 b1 hC hP hW X;rintro⟨i,pr⟩ X ⟨b1,hC,hP,hi,hW,hbd,hdp,hms⟩;dsimp only at hP hi hW hbd hdp hms ⊢;refine biE (fun hc=>?_) fun hc=>?_
  ·have hc:(i:Int)<(ls.length:Int):=dT hc;have hil:i<ls.length:=by omega
   have hir:i<rows.length:=by omega
   obtain⟨x,hx⟩:=nm (ls[i]);have hxr:rows[i].1=x:=by
    rw [hx];have:(rows.map (·.1))[i]?=ls[i]?:=(by rw [hrl]);rw [KU,gE hir,gE hil] at this;exact Ug this
   have hdrop:ls.drop i=x::ls.drop (i+1):=by rw [hx];exact Jo hil
   rw [hdrop] at hW hbd;rw [QO] at hW;rw [zcx] at hbd;obtain⟨v1,v2,v3⟩:=hval x (by rw [hx];exact gM hil);obtain⟨bk,o,hp,hbk,hcl2⟩:=zcI.at hir;subst hp;obtain⟨k1,k2,k3,k4⟩:=hrk rows[i] (gM hir);have hcell:zw w ⟨bk,o+i*5,none⟩ (zC rows[i].1.kind rows[i].1.name rows[i].1.term rows[i].2.1 rows[i].2.2):=hcl2 i hir;rw [hxr] at hcell k4;obtain⟨q,hq⟩:=nm (rows[i].2.1);obtain⟨cp,hcp⟩:=nm (rows[i].2.2);rw [<- hq,<- hcp] at hcell;rw [<- hq] at k4;have kd:KidsT (fun b=>b<w.heap.size) w q x.term.kids:=k4.there.weak fun b hb=>hb.2;refine⟨Nat,fun lb=>⟨[(5,At0 (w.heap.size+2)),(6,At0 wb),(8,At0 lb),(18,.slice (some ⟨bk,o,none⟩) ls.length cap),(19,i64 (ls.length:Nat)),(20,.int .i64 (i:Nat))],[]⟩,fun lb Y=>Bw w Y/\ChkB (w.heap.size+2) (w.heap.size+1) lets m Y/\PrB wb pr Y/\Y.heap[lb]?=some (.cells (zC x.kind x.name x.term q cp).toArray 49 (0,0)),?_,?_⟩
   ·exact⟨i,rfl,hil,zC x.kind x.name x.term q cp,rfl,jf b1 hbk hcell,nL hbk b1.size,zn (X:=X) (v := .agg (zC x.kind x.name x.term q cp).toArray) k49 rfl rfl rfl fun Y hbY fY sY=>⟨X.heap.size,(cvE rfl rfl),(zst b1 hbY),hC.below hbY,hP.below hbY,fY⟩⟩
   clear b1 hC hP hcell X;rintro lb X ⟨b1,hC,hP,fx⟩;refine⟨_,rfl,za fx,hlt fx,?_⟩;have kX:KidsT (fun b=>b<wb) X q x.term.kids:=(kd.by fun b cs ty fr hb hc=>b1.block b hb).weak fun b hb=>by omega
   have hle:=zoj v3 v2 pr;refine cmo (zpP v3 v2 v1 (cap:=cp) hP kX (by omega) (by omega) (by omega)) ?_;rintro e Y ⟨rfl,hY,sY⟩;refine nxI (by omega) ?_;have lw:∀ {j},j<wb->Y.heap[j]?=X.heap[j]?:=fun {j} hj=>sY.low j hj;refine⟨(i+1,zb7 pr x),(cvE rfl rfl),⟨b1.trans (sY.below (by omega)),⟨(lw (by omega)).trans hC.f,hC.lm.same (lw (by omega)),hC.ne,hC.og,hC.ol,hY.glob⟩,hY,hil,hW,by dsimp only;omega,by dsimp only;omega,by dsimp only;omega⟩,by dsimp only;omega⟩
  ·have hc:¬ (i:Int)<(ls.length:Int):=dF hc;rw [JA (by omega),List.foldl_nil] at hW;exact⟨(),(cvE rfl rfl),b1,hC,by rw [hW];exact hP⟩
 clear f1 b1 hC hP X;rintro _ X ⟨b1,hC,hP⟩;obtain⟨q,c2,f,ow⟩:=hP.f;refine⟨Unit,fun _=>⟨[(5,At0 (w.heap.size+2)),(6,At0 wb)],[]⟩,fun _ Y=>X=Y/\¬ (W.text.length > 8192\/W.most > 50),?_,?_⟩
 ·refine⟨_,zc (za f) (i:=0) rfl,biE (fun h=>?_) fun h=>?_⟩
  ·have h:(8192:Int)<(W.text.length:Int):=dT h;exact brT (none_ (by rw [hR,Gz (.inl (by omega))]) b1)
  have h:¬ (8192:Int)<(W.text.length:Int):=dF h;refine⟨_,zc (za f) (i:=2) rfl,biE (fun h2=>?_) fun h2=>?_⟩
  ·have h2:(50:Int)<(W.most:Int):=dT h2;exact none_ (by rw [hR,Gz (.inr (by omega))]) b1
  ·have h2:¬ (50:Int)<(W.most:Int):=dF h2;exact⟨(),(cvE rfl rfl),rfl,by rintro (h | h) <;> omega⟩
 rintro _ _ ⟨rfl,hno⟩;rw [Gy hno] at hR;refine DrawE.ord [] [0,1,2,3,4,5,6,7,8,9] (by kernel_rfl) ?_;have bD:=(Gj X.heap.size X).drew;have fD:=zb bD f;have hD:=hC.below bD;have oD:=ow.below bD;refine⟨_,zc (za fD) (i:=0) rfl,_,fun w2 hb=>zqT oD.row w2 hb,_,zc (za hD.f) (i:=0) rfl,(zst b1 bD),(fun h=>by rw [hR] at h;cases h),fun x hx=>?_⟩;rw [hR] at hx;obtain rfl:=Ug hx;exact⟨w.heap.size+1,rfl,hD.lm,by omega⟩
end
end Go.Proofs.YtnadlhpkpnfmbaaGreatDoor
