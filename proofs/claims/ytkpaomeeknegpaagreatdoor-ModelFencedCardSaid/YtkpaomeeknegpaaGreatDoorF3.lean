/- Contracts of functions, and plain facts, for the law that the last text of this claim proves. -/
import Derived.Test.YtkpaomeeknegpaaGreatDoorF2
import Derived.Test.YtkpaomeeknegpaaGreatDoorF1
import Derived.Laws.StructEq
import Derived.ChangeKeysEq
set_option linter.unusedSimpArgs false
set_option linter.unusedVariables false
namespace Go.Proofs.YtkpaomeeknegpaaGreatDoor
open Go.Vc Go.RowKit Go.Sei
def prE:Enc (Nat×Nat):=⟨fun x=>[u8 (UInt8.ofNat x.1),u8 (UInt8.ofNat x.2)],2,fun _=>rfl,by decide,fun a u hu=>by
 simp only [Uy,Qs,Gf] at hu;rcases hu with rfl | rfl <;> rfl⟩
def zgy:Enc Nat:=⟨fun x=>[s32 x],1,fun _=>rfl,by decide,fun a u hu=>by
 simp only [Uy,Qs,Gf] at hu;subst hu;rfl⟩
theorem zsN {s:Nat} {w:Wd} (hT:Tz32M w) (h0:s≠0) (h:s<2^32):Calls PG 178 #[s32 s] w fun e w'=>e = .returned (i64 (ctz s:Nat))/\w=w':=by
 refine zF 14 [s32 s] Tryz.func178 ?_;obtain⟨h2,h3⟩:=zht h0 h;obtain⟨t1,t2⟩:=zoT h3;refine brN (Uc (fun e=>h0 (by omega))) ⟨((2^32-s:Nat):Int),by unfold IntKind.wrap;simp only [IntKind.bits,IntKind.signed,Ue,Kr,Ge];omega,?_⟩;refine⟨((2^ctz s:Nat):Int),(zmu (a:=s) (b:=2^32-s) h (by omega)).trans (by rw [h2]),?_⟩;refine⟨((2^ctz s*125613361%4294967296:Nat):Int),by
  have e:(((2^ctz s:Nat):Int)*125613361)=((2^ctz s*125613361:Nat):Int):=by rw [QD];rfl
  rw [e];generalize 2^ctz s*125613361=n;unfold IntKind.wrap;simp only [IntKind.bits,IntKind.signed,Ue,Kr,Ge];omega,?_⟩
 refine⟨by decide,((2^ctz s*125613361%4294967296/2^27:Nat):Int),by
  generalize 2^ctz s*125613361%4294967296=n;show (n:Int).fdiv (2^(min (Int.toNat (27:Int)) IntKind.u32.bits))=_;rw [show min (Int.toNat (27:Int)) IntKind.u32.bits=27 from rfl,Jk _ (by decide)];omega,?_⟩
 refine⟨_,rfl,t1,?_⟩;have hv:(zh1.map u8)[2^ctz s*125613361%4294967296/2^27]?=some (u8 (UInt8.ofNat (ctz s))):=by rw [KR,t2];rfl
 refine⟨u8 (UInt8.ofNat (ctz s)),by rw [US];exact zc hT hv,?_⟩;have e:(UInt8.ofNat (ctz s)).toNat=ctz s:=by rw [KF];omega
 exact⟨(ctz s:Int),by rw [e];exact ze (by omega),rfl,rfl⟩
def j9:Nat->List Nat->List (Nat×Nat)
 | _,[]=>[]
 | i,s::r=>(els s).map (fun a=>(a,i))++j9 (i+1) r
theorem zgL (f:Nat->Nat):∀ (n i:Nat),j9 i ((List.range' i n).map f)=(List.range' i n).flatMap fun i=>(els (f i)).map fun a=>(a,i)
 | 0,i=>rfl
 | n+1,i=>by
  rw [List.range'_succ,Ux,KO];show (els (f i)).map _++j9 (i+1) _=_;rw [zgL f n (i+1)]
theorem zdE (f:Nat->Nat) (n:Nat):j9 0 ((List.range n).map f)=zcc f n:=by
 unfold zcc;rw [List.range_eq_range'];exact zgL f n 0
theorem zlQ (l:List Nat) (x:Nat):∀ i,j9 i (l++[x])=j9 i l++(els x).map (fun a=>(a,i+l.length)):=by
 induction l with
 | nil=>intro i;show (els x).map _++[]=_;rw [QF];rfl
 | cons y r ih =>
  intro i;show (els y).map _++j9 (i+1) (r++[x])=((els y).map _++j9 (i+1) r)++_;rw [ih,KL,Qp];congr 3;funext a;congr 1;omega
theorem zfh:∀ (l:List Nat) (i:Nat),(j9 i l).length<=64*l.length
 | [],_=>UU _
 | x::r,i=>by
  show ((els x).map _++j9 (i+1) r).length<=_;rw [lap,QI,Qp];have h1:=zfh r (i+1);have h2:=zeU x;omega
section
variable {p:OA} {cap:Nat} {l:List Nat} {w:Wd}
theorem zi8 (hl:SlR zgy w p l) (hn:l.length<=24) (hb:∀ x∈l,x<2^32) (hT:Tz32M w) :
  Calls PG 150 #[.slice p l.length cap] w fun e w'=>(∃ q c,e = .returned (.slice q (j9 0 l).length c)/\OwnS prE 231 w.heap.size w' q c (j9 0 l))/\Bw w w':=by
 refine zF 30 [.slice p l.length cap] Tryz.func150 ?_;refine⟨Nat×OA×Nat,fun s=>⟨[(3,.slice s.2.1 (j9 0 (l.take s.1)).length s.2.2),(6,.slice p l.length cap),(7,i64 l.length),(8,i64 (s.1:Nat))],[]⟩,
  fun s X=>s.1<=l.length/\OwnS prE 231 w.heap.size X s.2.1 s.2.2 (j9 0 (l.take s.1))/\Bw w X,fun s=>l.length-s.1,(0,none,0),
  (cvE rfl rfl),⟨UU _,OwnS.nil,UW _ _⟩,?_⟩
 rintro⟨k,q,c⟩ X ⟨hk,ho,hbX⟩;dsimp only at hk ho ⊢;refine biE (fun hc=>?_) fun hc=>?_
 ·have hc:(k:Int)<(l.length:Int):=dT hc;have hkl:k<l.length:=by omega
  obtain⟨b,o,hp,hlt',hat⟩:=(hl.below hbX).at hkl;have ep:some (Value.slice p l.length cap)=some (Value.slice (some ⟨b,o,none⟩) l.length cap):=by rw [hp]
  subst hp;refine⟨k,rfl,hkl,s32 l[k],by have:=zc (hat k hkl) (i:=0) (v:=s32 l[k]) rfl;exact this,?_⟩;have hlk:=hb _ (gM hkl);have htl:(l.take k).length=k:=by rw [Qr];omega
  have hpl:=zfh (l.take k) 0;have tk:l.take (k+1)=l.take k++[l[k]]:=tsg hkl;refine⟨Nat×List (Nat×Nat)×OA×Nat,fun s=>⟨[(3,.slice s.2.2.1 s.2.1.length s.2.2.2),(4,i64 (k:Nat)),(5,s32 s.1),(6,.slice (some ⟨b,o,none⟩) l.length cap),(7,i64 l.length),(8,i64 (k:Nat))],[]⟩,
   fun s Y=>(j9 0 (l.take (k+1))=s.2.1++(els s.1).map (fun a=>(a,k))/\s.1<2^32/\s.2.1.length+(els s.1).length<=64*(k+1))/\OwnS prE 231 w.heap.size Y s.2.2.1 s.2.2.2 s.2.1/\Bw w Y,fun s=>s.1,(l[k],j9 0 (l.take k),q,c),
   (cvE rfl rfl),⟨⟨by rw [tk,zlQ,htl,UM],hlk,by have:=zeU l[k];show (j9 0 (l.take k)).length+(els l[k]).length<=_;omega⟩,ho,hbX⟩,?_⟩
  rintro⟨s,m,q,c⟩ Y ⟨⟨he,hs,hlen⟩,ho,hbY⟩;dsimp only at he hs hlen ho ⊢;refine biE (fun hc=>?_) fun hc=>?_
  ·have hc:(!decide ((s:Int)=0))=true:=hc;have h0:s≠0:=fun e=>by
    subst e;exact Gj hc (by decide)
   have hs64:s<2^64:=nL hs (by decide);obtain⟨e1,e2,_,_⟩:=jO h0 hs64;obtain⟨_,hc32⟩:=zht h0 hs;rw [e1] at hlen;refine cmo (zsN (hT.below hbY) h0 hs) ?_;rintro e _ ⟨rfl,rfl⟩;refine⟨_,w8N _,_,w8N _,prE.enc (ctz s,k),rfl,⟨by decide,by decide,rfl⟩,prE.enc (ctz s,k),zaZ rfl rfl,?_⟩;have hba:Bw Y (Y.alloc (.cells (prE.enc (ctz s,k)).toArray 231)):=zba _ _;simp only [Qp] at hlen;refine jj (E:=prE) (T:=231) (B:=w.heap.size) (l:=m) (news:=[(ctz s,k)]) (cap:=c) (m:=1) Tryz.underlying136 zua rfl rfl rfl (ho.below hba) rfl (qK prE (ctz s,k)) (by have:=hbY.size;have:=hba.size;omega) (by omega) (by show (m.length+1)*2<=_;omega) ?_;intro p2 c2 Z oZ gZ hbZ hat2;refine⟨((s-1:Nat):Int),(w32 (a:=(s:Int)-1) (by omega)).trans (by omega),((qp s:Nat):Int),zmu (a:=s) (b:=s-1) hs (by omega),(qp s,m++[(ctz s,k)],p2,c2),(cvE rfl rfl),⟨⟨?_,by show qp s<_;omega,?_⟩,oZ,((zst hbY hba)).trans hbZ⟩,e2⟩
   ·rw [he,e1,Ux,KL];rfl
   ·simp only [lap,Qp,QJ];omega
  ·have hc:(!decide ((s:Int)=0))=false:=hc;have h0:s=0:=by
    have h1:decide ((s:Int)=0)=true:=(by simpa using hc);exact Uu (dT h1)
   subst h0;rw [zah,List.map_nil,QF] at he;exact nxI (by omega) ⟨(k+1,q,c),⟨.cons (by rw [he];rfl) (.cons rfl (.cons rfl (.cons rfl .nil))),rfl⟩,⟨hkl,by show OwnS prE _ _ _ _ _ (j9 0 (l.take (k+1)));rw [he];exact ho,hbY⟩,zdc (by omega)⟩
 ·have hc:¬ (k:Int)<(l.length:Int):=dF hc;obtain rfl:k=l.length:=by omega
  rw [Qt] at ho;refine⟨⟨q,c,by rw [Qt];rfl,ho⟩,hbX⟩
theorem ziK {p:OA} {cap:Nat} {l:List Ev} {w:Wd} (hl:SlR evE w p l) (hn:l.length<=100000) (hc:p=none->cap=0) :
  Calls PG 79 #[.slice p l.length cap] w fun e w'=>(∃ q c,e = .returned (.slice q l.length c)/\OwnS evE 49 w.heap.size w' q c l)/\Bw w w':=by
 refine zF 8 [.slice p l.length cap] Tryz.func79 ?_;refine⟨_,fun w=>zts Tryz.underlying34 _ _ p l.length cap w,?_⟩
 cases p with
 | none =>
  refine brT ?_;have e:=hl.none;subst e;exact⟨⟨none,0,rfl,OwnS.nil⟩,UW _ _⟩
 | some a =>
  refine brF ⟨⟨by decide,by decide,rfl⟩,[],rfl,?_⟩;have hb0:Bw w (w.alloc (.cells #[] 49)):=zba w _;refine zgl (E:=evE) (T:=49) (B:=w.heap.size) (l:=[]) (news:=l) (cap:=0) Tryz.underlying34 k49 rfl rfl rfl zgN rfl (hl.below hb0) (fun h=>by cases h) hb0.size (by simp;omega) (by show (0+l.length)*16<=_;omega) ?_;intro p' cap' w' ho hg hbw;exact⟨⟨p',cap',rfl,ho⟩,hb0.trans hbw⟩
end
def zhP (P:PathD) (q1:OA) (c1:Nat) (q2:OA) (c2:Nat) (q3:OA) (c3:Nat) (q4:OA) (c4:Nat):List Value :=
 [.slice q1 P.ev.length c1,.slice q2 P.data.length c2,.slice q3 P.ctrl.length c3,.slice q4 P.rmw.length c4]++seg 8 (fun i=>u8 (P.regs i))
theorem zkh (P:PathD) (q1 c1 q2 c2 q3 c3 q4 c4):(zhP P q1 c1 q2 c2 q3 c3 q4 c4).all Value.oneCell'=true:=by
 unfold zhP;rw [QE,zbB fun _=>rfl];rfl
theorem zki (P:PathD) (q1 c1 q2 c2 q3 c3 q4 c4):(zhP P q1 c1 q2 c2 q3 c3 q4 c4).length=12:=by
 unfold zhP;rw [lap,zG];rfl
def zum (R:RunD):Prop:=∀ i,i<R.many->R.data i<2^32/\R.ctrl i<2^32/\R.att i<2^32
section
variable {R:RunD} {b:Nat} {w:Wd}
theorem znN {X:Wd} {o n m:Nat} {f:Nat->Nat} (hb:b<X.heap.size) (h:∀ i,i<n->X.cell? ⟨b,o+i,none⟩=some (s32 (f i))) (hm:m<=n):SlR zgy X (some ⟨b,o,none⟩) ((List.range m).map f):=by
 refine .inr ⟨b,o,rfl,hb,fun i hi=>?_⟩;have hi:i<m:=by simpa using hi
 rw [Qn,Kw];refine zaB fun j v hv=>?_
 cases j with
 | zero =>
  have hv:s32 (f i)=v:=by simpa [zgy] using hv
  rw [<- hv];show X.cell? ⟨b,o+i*1+0,none⟩=_;rw [US,UH];exact h i (by omega)
 | succ j=>simp [zgy] at hv
theorem zrO {X:Wd} {m:Nat} (f:jw X b R) (hm:m<=24):SlR evE X (some ⟨b,19,none⟩) ((List.range m).map R.ev):=by
 have hc:=zmB f;refine .inr ⟨b,19,rfl,hlt f,fun i hi=>?_⟩;have hi:i<m:=by simpa using hi
 rw [Qn,Kw,<- zpZ R.ev (show i<24 by omega)];exact zP hc
theorem zs5 (f:jw w b R) (hm:R.many<=24) (hB:zum R) (hT:Tz32M w) :
  Calls PG 105 #[AtR b] w fun e w'=>(∃ q1 c1 q2 c2 q3 c3 q4 c4,e = .returned (.agg (zhP (j4 R) q1 c1 q2 c2 q3 c3 q4 c4).toArray)/\OwnS evE 49 w.heap.size w' q1 c1 (j4 R).ev/\OwnS prE 231 w.heap.size w' q2 c2 (j4 R).data/\OwnS prE 231 w.heap.size w' q3 c3 (j4 R).ctrl/\OwnS prE 231 w.heap.size w' q4 c4 (j4 R).rmw)/\Bw w w':=by
 refine zF 44 [AtR b] Tryz.func105 ?_;obtain⟨Z0,hZ0⟩:∃ Z0:List Value,Z0=zhP ⟨[],[],[],[],fun _=>0⟩ none 0 none 0 none 0 none 0:=⟨_,rfl⟩;have f0:=zy w (.cells Z0.toArray 138);have hb0:Bw w (w.alloc (.cells Z0.toArray 138)):=zba w _;obtain⟨X,hX⟩:=nm ((w.alloc (.cells Z0.toArray 138)).drew);have hbX:Bw w X:=by rw [hX];exact hb0.drew
 have f0X:X.heap[w.heap.size]?=some (.cells Z0.toArray 138 (0,0)):=by rw [hX];exact f0
 have fX:=zb hbX f;have hX':(w.alloc (.cells (#[.slice none 0 0,.slice none 0 0,.slice none 0 0,.slice none 0 0,.int .u8 0,.int .u8 0,.int .u8 0,.int .u8 0,.int .u8 0,.int .u8 0,.int .u8 0,.int .u8 0]:Array Value) 138)).drew=X:=by rw [hX,hZ0];rfl
 refine DrawE.ord [41] [0,1,2,3,4,5,6,7,9,10,11,12,13,14,15,16,18,19,20,21,22,23,24,25,27,28,29,30,31,32,33,34,36,37,38,39,8,17,26,35,40,41] (by kernel_rfl) ?_;have cut:∀ (o e:Nat),Value.slice (ji (some ⟨b,0+o,none⟩) 24 0 e) (R.many-0) (24-0) = .slice (some ⟨b,o,none⟩) R.many 24:=fun o e=>by rw [zcS,UM];rfl
 have lm:∀ {α:Type} (g:Nat->α),((List.range R.many).map g).length=R.many:=fun g=>by rw [QI,KS]
 have hbx:=hlt fX;have sd:∀ {o:Nat} {g:Nat->Nat},(∀ i,i<24->(qO R)[o+i]?=some (s32 (g i)))->SlR zgy X (some ⟨b,o,none⟩) ((List.range R.many).map g):=fun {o g} h=>znN hbx (fun i hi=>by
  have:=zc (za fX) (h i hi);rw [UM] at this;exact this) hm
 rw [hX'];refine⟨_,zc (za fX) (i:=18) (zbH R),R.many,rfl,hm,_,zc (za fX) (i:=18) (zbH R),R.many,rfl,hm,_,zc (za fX) (i:=18) (zbH R),R.many,rfl,hm,_,zc (za fX) (i:=18) (zbH R),R.many,rfl,hm,seg 8 (fun i=>u8 (R.regs i)),zG _ _,?_,hbx,?_⟩
 ·have:=zP (n:=1) (m:=8) (za fX);have e:((qO R).toArray.toList.drop 1).take 8=seg 8 (fun i=>u8 (R.regs i)):=by
   show (seg 8 (fun i=>u8 (R.regs i))++_).take 8=_;exact QS (zG _ _)
  rw [e] at this;exact this
 have c1:=ziK (w:=X) (cap:=24) (zrO fX hm) (by rw [lm];omega) (fun h=>by cases h);rw [lm,<- cut 19 7] at c1;refine cmo c1 ?_;rintro e Y1 ⟨⟨q1,k1,rfl,o1⟩,hb1⟩;refine⟨hb1,?_⟩;have hw1:=zst hbX hb1;have c2:=zi8 (w:=Y1) (cap:=24) ((sd (o:=187) (g:=R.data) fun i hi=>zj2 R hi).below hb1) (by rw [lm];exact hm) (fun x hx=>by
  obtain⟨i,hi,rfl⟩:=UF.1 hx;exact (hB i (Uj.1 hi)).1) (hT.below hw1)
 rw [lm,<- cut 187 1,zdE] at c2;refine cmo c2 ?_;rintro e Y2 ⟨⟨q2,k2,rfl,o2⟩,hb2⟩;refine⟨hb2,?_⟩;have hx2:=zst hb1 hb2;have hw2:=zst hbX hx2;have c3:=zi8 (w:=Y2) (cap:=24) ((sd (o:=211) (g:=R.ctrl) fun i hi=>zj3 R hi).below hx2) (by rw [lm];exact hm) (fun x hx=>by
  obtain⟨i,hi,rfl⟩:=UF.1 hx;exact (hB i (Uj.1 hi)).2.1) (hT.below hw2)
 rw [lm,<- cut 211 1,zdE] at c3;refine cmo c3 ?_;rintro e Y3 ⟨⟨q3,k3,rfl,o3⟩,hb3⟩;refine⟨hb3,?_⟩;have hx3:=zst hx2 hb3;have hw3:=zst hbX hx3;have c4:=zi8 (w:=Y3) (cap:=24) ((sd (o:=235) (g:=R.att) fun i hi=>ziZ R hi).below hx3) (by rw [lm];exact hm) (fun x hx=>by
  obtain⟨i,hi,rfl⟩:=UF.1 hx;exact (hB i (Uj.1 hi)).2.2) (hT.below hw3)
 rw [lm,<- cut 235 1,zdE] at c4;refine cmo c4 ?_;rintro e Y4 ⟨⟨q4,k4,rfl,o4⟩,hb4⟩;refine⟨hb4,?_⟩;have hx4:=zst hx3 hb4;have hw4:=zst hbX hx4;have le1:(j4 R).ev.length=R.many:=lm _;obtain⟨cs,hcs⟩:=nm (zhP (j4 R) q1 k1 q2 k2 q3 k3 q4 k4);refine⟨cs,by rw [hcs];unfold zhP;rw [le1];rfl,?_⟩;have f4:=zb hx4 f0X;have hone:cs.all Value.oneCell'=true:=by rw [hcs];exact zkh ..
 have hlen:cs.length=12:=by rw [hcs];exact zki ..
 refine zt (v := .agg cs.toArray) zog f4 hlen (by rw [hZ0];rfl) hone ?_;have f5:=zn (cs':=(Value.agg cs.toArray).cells) f4;have hs:w.heap.size<=X.heap.size:=hbX.size;have keep:∀ {α:Type} {E:Enc α} {T B c:Nat} {p:OA} {l:List α},X.heap.size<=B->OwnS E T B Y4 p c l->OwnS E T w.heap.size (Y4.setRow w.heap.size (Value.agg cs.toArray).cells) p c l:=fun {α E T B c p l} hB o=>by
  refine OwnS.lower (o.kept (jC Y4 w.heap.size _) fun g hg e=>?_) (UI hs hB);rcases o.inv with ⟨h,_⟩ | ⟨g',cur,h,h2,_⟩
  ·rw [h] at hg;cases hg
  ·rw [h] at hg;simp only [KW,Up,Gc] at hg e;have:=hlt f0X;omega
 have n1:=hb1.size;have n2:=hb2.size;have n3:=hb3.size;refine⟨cs,hlen,za f5,⟨q1,k1,q2,k2,q3,k3,q4,k4,by rw [hcs];rfl,keep (UR _) (((o1.below hb2).below hb3).below hb4),keep (by omega) ((o2.below hb3).below hb4),keep (by omega) (o3.below hb4),keep (by omega) o4⟩,zl hw4 (UR _) _⟩
end
theorem j8 (c:UInt8) (w:Wd):Calls PG 131 #[u8 c] w fun e w'=>e = .returned (i64 (qb c))/\w=w':=by
 refine qk 47 [u8 c] (.s .p (.c .p .p)) Tryz.func131 ?_;refine⟨Unit,fun _=>⟨[(0,u8 c)],[]⟩,fun _ X=>zfL c=false/\zhe c=false/\w=X,?_,?_⟩
 ·repeat first
   | exact⟨(),(cvE rfl rfl),by unfold zfL;simp only [*];rfl,by unfold zhe;simp only [*];rfl,rfl⟩
   | exact⟨by
     first
     | (have e:zfL c=true:=(by unfold zfL;simp only [*];rfl);unfold qb;rw [e];rfl)
     | (have e1:zfL c=false:=(by unfold zfL;simp only [*];rfl);have e2:zhe c=true:=(by unfold zhe;simp only [*];rfl);unfold qb;rw [e1,e2];rfl),rfl⟩
   | refine brT ?_
   | refine brF ?_
   | refine brE (by assumption) ?_
   | refine brN (by assumption) ?_
   | refine biE (fun h=>?_) fun h=>?_
 rintro _ _ ⟨h1,h2,rfl⟩;have key:qb c=(bif eqB c 32||eqB c 9 then 1 else bif eqB c 10 then 2 else bif eqB c 95 then 5 else bif eqB c 35 then 7 else bif zm3 c then 6 else 0):=by unfold qb;rw [h1,h2];rfl
 rw [key];clear key h1 h2;unfold zm3;refine biE (fun h=>?_) fun h=>?_
 ·have h:eqB c 32=true:=h;exact brE h ⟨by rw [h];rfl,rfl⟩
 have h32:eqB c 32=false:=h;refine biE (fun h=>?_) fun h=>?_
 ·have h:eqB c 9=true:=h;exact⟨by rw [h32,h];rfl,rfl⟩
 have h9:eqB c 9=false:=h;refine biE (fun h=>?_) fun h=>?_
 ·have h:eqB c 10=true:=h;exact⟨by rw [h32,h9,h];rfl,rfl⟩
 have h10:eqB c 10=false:=h;refine biE (fun h=>?_) fun h=>?_
 ·have h:eqB c 95=true:=h;exact⟨by rw [h32,h9,h10,h];rfl,rfl⟩
 have h95:eqB c 95=false:=h;refine biE (fun h=>?_) fun h=>?_
 ·have h:eqB c 35=true:=h;exact⟨by rw [h32,h9,h10,h95,h];rfl,rfl⟩
 have h35:eqB c 35=false:=h;rw [h32,h9,h10,h95,h35];refine biE (fun h=>?_) fun h=>?_
 ·have h:eqB c 61=true:=h;exact brE h ⟨by rw [h];rfl,rfl⟩
 have h61:eqB c 61=false:=h;refine biE (fun h=>?_) fun h=>?_
 ·have h:eqB c 43=true:=h;exact brE h ⟨by rw [h61,h];rfl,rfl⟩
 have h43:eqB c 43=false:=h;refine biE (fun h=>?_) fun h=>?_
 ·have h:eqB c 45=true:=h;exact brE h ⟨by rw [h61,h43,h];rfl,rfl⟩
 have h45:eqB c 45=false:=h;refine biE (fun h=>?_) fun h=>?_
 ·have h:eqB c 94=true:=h;exact brE h ⟨by rw [h61,h43,h45,h];rfl,rfl⟩
 have h94:eqB c 94=false:=h;refine biE (fun h=>?_) fun h=>?_
 ·have h:eqB c 38=true:=h;exact brE h ⟨by rw [h61,h43,h45,h94,h];rfl,rfl⟩
 have h38:eqB c 38=false:=h;refine biE (fun h=>?_) fun h=>?_
 ·have h:eqB c 124=true:=h;exact brE h ⟨by rw [h61,h43,h45,h94,h38,h];rfl,rfl⟩
 have h124:eqB c 124=false:=h;refine biE (fun h=>?_) fun h=>?_
 ·have h:eqB c 33=true:=h;exact brE h ⟨by rw [h61,h43,h45,h94,h38,h124,h];rfl,rfl⟩
 have h33:eqB c 33=false:=h;refine biE (fun h=>?_) fun h=>?_
 ·have h:eqB c 40=true:=h;exact brE h ⟨by rw [h61,h43,h45,h94,h38,h124,h33,h];rfl,rfl⟩
 have h40:eqB c 40=false:=h;refine biE (fun h=>?_) fun h=>?_
 ·have h:eqB c 41=true:=h;exact brE h ⟨by rw [h61,h43,h45,h94,h38,h124,h33,h40,h];rfl,rfl⟩
 have h41:eqB c 41=false:=h;refine biE (fun h=>?_) fun h=>?_
 ·have h:eqB c 58=true:=h;exact brE h ⟨by rw [h61,h43,h45,h94,h38,h124,h33,h40,h41,h];rfl,rfl⟩
 have h58:eqB c 58=false:=h;refine biE (fun h=>?_) fun h=>?_
 ·have h:eqB c 60=true:=h;exact⟨by rw [h61,h43,h45,h94,h38,h124,h33,h40,h41,h58,h];rfl,rfl⟩
 have h60:eqB c 60=false:=h;exact⟨by rw [h61,h43,h45,h94,h38,h124,h33,h40,h41,h58,h60];rfl,rfl⟩
theorem zkF (c:UInt8) (w:Wd):Calls PG 133 #[u8 c] w fun e w'=>e = .returned (.bool (qH c))/\w=w':=by
 refine zF 16 [u8 c] Tryz.func133 ?_;refine cmo (j8 c w) ?_;rintro e _ ⟨rfl,rfl⟩;have e3:∀ k:Nat,decide ((qb c:Int)=(k:Int))=decide (qb c=k):=fun k=>by rw [QB];omega
 refine biE (fun h=>?_) fun h=>?_
 ·have h:decide (qb c=3)=true:=(e3 3).symm.trans h;exact Ga (fun _=>⟨rb (by unfold qH;rw [h];rfl),rfl⟩) (fun h=>by cases h)
 have h3:decide (qb c=3)=false:=(e3 3).symm.trans h;refine biE (fun h=>?_) fun h=>?_
 ·have h:decide (qb c=4)=true:=(e3 4).symm.trans h;exact⟨rb (by unfold qH;rw [h3,h];rfl),rfl⟩
 have h4:decide (qb c=4)=false:=(e3 4).symm.trans h;exact⟨rb (by unfold qH;rw [h3,h4];exact e3 5),rfl⟩
theorem zbG {p:UInt8->Bool} {s:List UInt8} {k:Nat} (h:k<s.length):jU p (s.drop k)=if p s[k] then jU p (s.drop (k+1))+1 else 0:=by
 rw [Jp h];rfl
theorem zf7 {p:UInt8->Bool} {s:List UInt8} {k:Nat} (h:s.length<=k):jU p (s.drop k)=0:=by
 rw [JB h];rfl
theorem zkG {p:UInt8->Bool} (s:List UInt8) (k:Nat) (h:k<=s.length):k+jU p (s.drop k)<=s.length:=by
 have:=zj4 p (s.drop k);rw [Qq] at this;omega
theorem zb4 {a b:Nat}:decide ((a:Int)=(b:Int))=decide (a=b):=by rw [QB];omega
theorem zcA {s:List UInt8} {k:Nat} (h:k<s.length):(bs s).data.toList[k]?=some s[k]:=by
 show s[k]?=_;exact gE h
theorem zjb {g a:Nat} {s:List UInt8} {w:Wd} (h:zI w ⟨g,0,none⟩ [qB s,i64 a]) :
  CB 185 #[At0 g] w (.bool (decide (s.length<=a))):=by
 refine zF 13 [At0 g] Tryz.func185 ?_;refine DrawE.ord [] [0,1,2,3,4,5,6,7,8,9,10] (by kernel_rfl) ?_;have h:zI w.drew ⟨g,0,none⟩ [qB s,i64 a]:=js rfl h;refine⟨_,zc h (i:=1) rfl,_,zc h (i:=0) rfl,rb ?_,(UW _ _).drew⟩;show decide ((s.length:Int)<=(a:Int))=_;rw [QB];omega
theorem znu {g a:Nat} {s:List UInt8} {w:Wd} (h:zI w ⟨g,0,none⟩ [qB s,i64 a]) (hg:g<w.heap.size) :
  CB 183 #[At0 g] w (.bool (zac s a)):=by
 refine zF 18 [At0 g] Tryz.func183 ?_;refine DrawE.ord [] [0,1,2,3,4,5,6,7,8,9,10,11,12,13,14,15] (by kernel_rfl) ?_;have h:zI w.drew ⟨g,0,none⟩ [qB s,i64 a]:=js rfl h;refine cmo (zjb h) ?_;rintro e V ⟨rfl,hb⟩;refine⟨hb,?_⟩;have hw:=(UW w.heap.size w).drew.trans hb;have hV:=zS hb hg h;refine biE (fun ho=>?_) fun ho=>?_
 ·have ho:s.length<=a:=dT ho;have:zac s a=true:=by unfold zac;rw [JJ ho]
  exact⟨rb this.symm,hw⟩
 ·have ho:¬ s.length<=a:=dF ho;have hl:a<s.length:=by omega
  refine⟨_,zc hV (i:=0) rfl,_,zc hV (i:=1) rfl,a,rfl,hl,s[a],zcA hl,cmo (j8 _ _) ?_⟩;rintro e _ ⟨rfl,rfl⟩;refine⟨UW _ _,?_⟩;have:zac s a=decide (qb s[a]=2):=by unfold zac;rw [gE hl]
  exact⟨rb (by rw [this];exact zb4),hw⟩
theorem znB {g a:Nat} {s:List UInt8} {w:Wd} (h:zI w ⟨g,0,none⟩ [qB s,i64 a]) (ha:a<s.length) (hs:s.length<=140737488351232) :
  Calls PG 196 #[At0 g] w fun e w'=>e = .returned (i64 (a+1+jU qH (s.drop (a+1)):Nat))/\w=w':=by
 refine zF 28 [At0 g] Tryz.func196 ?_;refine⟨_,zc h (i:=1) rfl,(a+1:Nat),(ze (by omega)).trans (by omega),Nat,fun k=>⟨[(0,At0 g),(3,.int .i64 (k:Nat))],[]⟩,fun k X=>k<=s.length/\k+jU qH (s.drop k)=a+1+jU qH (s.drop (a+1))/\w=X,fun k=>s.length-k,a+1,(cvE rfl rfl),⟨ha,rfl,rfl⟩,?_⟩;rintro k _ ⟨hk,he,rfl⟩;dsimp only at hk he ⊢;refine⟨_,zc h (i:=0) rfl,biE (fun hc=>?_) fun hc=>?_⟩
 ·have hc:(k:Int)<(s.length:Int):=dT hc;have hl:k<s.length:=by omega
  refine⟨_,zc h (i:=0) rfl,k,rfl,hl,s[k],zcA hl,cmo (zkF _ _) ?_⟩;rintro e _ ⟨rfl,rfl⟩;refine biE (fun hi=>?_) fun hi=>?_
  ·refine⟨(k+1:Nat),(ze (by omega)).trans (by omega),k+1,(cvE rfl rfl),⟨hl,?_,rfl⟩,zdc (by omega)⟩;rw [zbG hl,Gi hi] at he;omega
  ·have hi:¬ qH s[k]=true:=by rw [Qf];exact hi
   rw [zbG hl,Gh hi] at he;exact⟨by rw [<- he];rfl,rfl⟩
 ·have hc:¬ (k:Int)<(s.length:Int):=dF hc;refine Ga (fun h=>by cases h) (fun _=>?_);rw [zf7 (by omega)] at he;exact⟨by rw [<- he];rfl,rfl⟩
theorem zkr {g a:Nat} {s:List UInt8} {w:Wd} (h:zI w ⟨g,0,none⟩ [qB s,i64 a]) (ha:a<s.length) (hs:s.length<=140737488351232) :
  Calls PG 197 #[At0 g] w fun e w'=>e = .returned (i64 (a+1+jU zbr (s.drop (a+1)):Nat))/\w=w':=by
 refine zF 29 [At0 g] Tryz.func197 ?_;refine⟨_,zc h (i:=1) rfl,(a+1:Nat),(ze (by omega)).trans (by omega),Nat,fun k=>⟨[(0,At0 g),(3,.int .i64 (k:Nat))],[]⟩,fun k X=>k<=s.length/\k+jU zbr (s.drop k)=a+1+jU zbr (s.drop (a+1))/\w=X,fun k=>s.length-k,a+1,(cvE rfl rfl),⟨ha,rfl,rfl⟩,?_⟩;rintro k _ ⟨hk,he,rfl⟩;dsimp only at hk he ⊢;refine⟨_,zc h (i:=0) rfl,biE (fun hc=>?_) fun hc=>?_⟩
 ·have hc:(k:Int)<(s.length:Int):=dT hc;have hl:k<s.length:=by omega
  refine⟨_,zc h (i:=0) rfl,k,rfl,hl,s[k],zcA hl,cmo (j8 _ _) ?_⟩;rintro e _ ⟨rfl,rfl⟩;have hd:decide ((qb s[k]:Int)=4)=zbr s[k]:=zb4 (b:=4);refine biE (fun hi=>?_) fun hi=>?_
  ·refine⟨(k+1:Nat),(ze (by omega)).trans (by omega),k+1,(cvE rfl rfl),⟨hl,?_,rfl⟩,zdc (by omega)⟩;rw [zbG hl,Gi (hd.symm.trans hi)] at he;omega
  ·have hi:¬ zbr s[k]=true:=by rw [Qf];exact hd.symm.trans hi
   rw [zbG hl,Gh hi] at he;exact⟨by rw [<- he];rfl,rfl⟩
 ·have hc:¬ (k:Int)<(s.length:Int):=dF hc;refine Ga (fun h=>by cases h) (fun _=>?_);rw [zf7 (by omega)] at he;exact⟨by rw [<- he];rfl,rfl⟩
def zgv (s:List UInt8) (a:Nat) (c:UInt8):Nat:=if (eqB c 61||eqB c 33)&&decide (s[a+1]?=some 61) then a+2 else a+1
theorem znM {g a:Nat} {s:List UInt8} {w:Wd} (h:zI w ⟨g,0,none⟩ [qB s,i64 a]) (ha:a<s.length) (hs:s.length<=140737488351232) :
  CB 195 #[At0 g] w (i64 (zgv s a s[a])):=by
 refine qk 46 [At0 g] (.s .p (.s .p (.s .p (.c .p .p)))) Tryz.func195 ?_;refine⟨_,zc h (i:=1) rfl,(a+1:Nat),(ze (by omega)).trans (by omega),DrawE.ord [] [0,1,2,3,4,5,6,7,8,9] (by kernel_rfl) ?_⟩;have hd:zI w.drew ⟨g,0,none⟩ [qB s,i64 a]:=js rfl h;refine⟨_,zc hd (i:=0) rfl,_,zc hd (i:=1) rfl,a,rfl,ha,s[a],zcA ha,Unit,fun _=>⟨[(3,i64 (zgv s a s[a]))],[]⟩,fun _ X=>X=w.drew,?_,?_⟩
 ·have no:((eqB s[a] 61||eqB s[a] 33)&&decide (s[a+1]?=some 61))=false->∃ _:Unit,some (Value.int .i64 ((a+1:Nat):Int))=some (i64 (zgv s a s[a])):=fun hf=>⟨(),by unfold zgv;rw [hf];rfl⟩;refine biE (fun h1=>?_) fun h1=>?_
  ·have he:(eqB s[a] 61||eqB s[a] 33)=true:=by
    have:eqB s[a] 61=true:=h1;rw [this];rfl
   refine brT ⟨_,zc hd (i:=0) rfl,biE (fun h2=>?_) fun h2=>?_⟩
   ·have h2:((a+1:Nat):Int)<(s.length:Int):=dT h2;have hl:a+1<s.length:=(by omega);refine⟨_,zc hd (i:=0) rfl,a+1,rfl,hl,s[a+1],zcA hl,biE (fun h3=>?_) fun h3=>?_⟩
    ·refine⟨(a+2:Nat),(ze (by omega)).trans (by omega),(),⟨.cons ?_ .nil,rfl⟩,rfl⟩;have h61:s[a+1]=61:=by
      apply Ub.1;have:((s[a+1].toNat:Nat):Int)=61:=dT h3;have h6:(61:UInt8).toNat=61:=rfl;omega
     unfold zgv;rw [he,gE hl,h61];rfl
    ·obtain⟨_,e⟩:=no (by
      have h61:¬ s[a+1]=61:=fun e=>by rw [e] at h3;cases h3
      rw [gE hl,Uc (by simpa using h61),Ud])
     exact⟨(),⟨.cons e .nil,rfl⟩,rfl⟩
   ·have h2:¬ ((a+1:Nat):Int)<(s.length:Int):=dF h2;refine brF ?_;obtain⟨_,e⟩:=no (by rw [JJ (by omega)];simp);exact⟨(),⟨.cons e .nil,rfl⟩,rfl⟩
  ·have h1:eqB s[a] 61=false:=h1;refine biE (fun h1b=>?_) fun h1b=>?_
   ·have he:(eqB s[a] 61||eqB s[a] 33)=true:=by
     have:eqB s[a] 33=true:=h1b;rw [this,Bool.or_true]
    refine⟨_,zc hd (i:=0) rfl,biE (fun h2=>?_) fun h2=>?_⟩
    ·have h2:((a+1:Nat):Int)<(s.length:Int):=dT h2;have hl:a+1<s.length:=(by omega);refine⟨_,zc hd (i:=0) rfl,a+1,rfl,hl,s[a+1],zcA hl,biE (fun h3=>?_) fun h3=>?_⟩
     ·refine⟨(a+2:Nat),(ze (by omega)).trans (by omega),(),⟨.cons ?_ .nil,rfl⟩,rfl⟩;have h61:s[a+1]=61:=by
       apply Ub.1;have:((s[a+1].toNat:Nat):Int)=61:=dT h3;have h6:(61:UInt8).toNat=61:=rfl;omega
      unfold zgv;rw [he,gE hl,h61];rfl
     ·obtain⟨_,e⟩:=no (by
       have h61:¬ s[a+1]=61:=fun e=>by rw [e] at h3;cases h3
       rw [gE hl,Uc (by simpa using h61),Ud])
      exact⟨(),⟨.cons e .nil,rfl⟩,rfl⟩
    ·have h2:¬ ((a+1:Nat):Int)<(s.length:Int):=dF h2;refine brF ?_;obtain⟨_,e⟩:=no (by rw [JJ (by omega)];simp);exact⟨(),⟨.cons e .nil,rfl⟩,rfl⟩
   ·have h1b:eqB s[a] 33=false:=h1b;refine brF (brF ?_);obtain⟨_,e⟩:=no (by rw [h1,h1b];rfl);exact⟨(),⟨.cons e .nil,rfl⟩,rfl⟩
 rintro _ _ rfl;exact⟨rfl,(UW _ _).drew⟩
def ScV (X:Wd) (g:Nat) (s:List UInt8) (a:Nat) (op:Bool):Prop:=X.heap[g]?=some (.cells #[qB s,i64 a,.bool op] 214 (0,0))
theorem ScV.cells {X:Wd} {g a:Nat} {s:List UInt8} {op:Bool} (h:ScV X g s a op):zI X ⟨g,0,none⟩ [qB s,i64 a]:=by
 have:=qI (o:=0) (n:=2) h;exact this
theorem ScV.below {X Y:Wd} {g a:Nat} {s:List UInt8} {op:Bool} (h:ScV X g s a op) (hb:Bw X Y):ScV Y g s a op:=zb hb h
theorem zge {a b c:Wd} {g:Nat} (h:a.grownBy b (some g)) (k:Bw b c):a.grownBy c (some g):=zd h (zi k)
theorem zfd {X:Wd} {g a:Nat} {s:List UInt8} {op:Bool} (h:ScV X g s a op) (v:Nat) {K:Wd->Prop} (k:∀ Y,ScV Y g s v op->X.grownBy Y (some g)->Y.heap.size=X.heap.size->K Y) :
  SatR ((storeVar 3 ⟨g,1,none⟩ (i64 v)).run PG X) fun _ w'=>K w' :=
 ja k3 rfl h (o:=1) (by show 1<3;omega) (v:=i64 v) rfl rfl fun Y fY gY sY=>k Y fY gY sY
theorem zkf {X:Wd} {g a:Nat} {s:List UInt8} {op:Bool} (h:ScV X g s a op) (v:Bool) {K:Wd->Prop} (k:∀ Y,ScV Y g s a v->X.grownBy Y (some g)->Y.heap.size=X.heap.size->K Y) :
  SatR ((storeVar 4 ⟨g,2,none⟩ (.bool v)).run PG X) fun _ w'=>K w' :=
 ja k4 rfl h (o:=2) (by show 2<3;omega) (v := .bool v) rfl rfl fun Y fY gY sY=>k Y fY gY sY
theorem zcD {s:List UInt8} {k:Nat} (h:k<s.length):zac s k=decide (qb s[k]=2):=by unfold zac;rw [gE h]
theorem zhF {s:List UInt8} {k:Nat} (h:s.length<=k):zac s k=true:=by unfold zac;rw [JJ h]
theorem zs6 {g a:Nat} {s:List UInt8} {op:Bool} {w:Wd} (h:ScV w g s a op) (ha:a<=s.length) (hs:s.length<=140737488351232) :
  Calls PG 182 #[At0 g] w fun e w'=>(∃ v,e = .returned v)/\ScV w' g s (zK s a) op/\w.grownBy w' (some g):=by
 refine qk 50 [At0 g] (.c .p (.c .p .p)) Tryz.func182 ?_;obtain⟨b,hb⟩:=nm (zb8 s a);have hbl:b<=s.length:=by rw [hb];exact zkG s a ha
 refine⟨Unit,fun _=>⟨[(0,At0 g)],[]⟩,fun _ X=>ScV X g s b op/\w.grownBy X (some g),?_,?_⟩
 ·refine⟨Nat,fun k=>⟨[(0,At0 g)],[]⟩,fun k X=>k<=s.length/\k+jU zjy (s.drop k)=b/\ScV X g s k op/\w.grownBy X (some g),fun k=>s.length-k,a,(cvE rfl rfl),⟨ha,hb.symm,h,qg _ _⟩,?_⟩;rintro k X ⟨hk,he,hX,hg⟩;dsimp only at hk he ⊢;refine DrawE.ord [] [0,1,2,3,4,5,6,7,8,9,10,11,12,13,14,15] (by kernel_rfl) ?_;have hXd:ScV X.drew g s k op:=hX;refine cmo (zjb hXd.cells) ?_;rintro e Y ⟨rfl,hbY⟩;refine⟨hbY,?_⟩;have hY:=hXd.below hbY;have gY:w.grownBy Y (some g):=zd hg (zi ((UW _ X).drew.trans hbY));refine biE (fun ho=>?_) fun ho=>?_
  ·have ho:s.length > k:=by
    have:(!decide (s.length<=k))=true:=ho;simpa using this
   refine⟨_,zc hY.cells (i:=0) rfl,_,zc hY.cells (i:=1) rfl,k,rfl,ho,s[k],zcA ho,cmo (j8 _ _) ?_⟩;rintro e _ ⟨rfl,rfl⟩;refine⟨UW _ _,?_⟩;have hd:decide ((qb s[k]:Int)=1)=zjy s[k]:=zb4 (b:=1);rw [zbG ho] at he;refine biE (fun hi=>?_) fun hi=>?_
   ·rw [Gi (hd.symm.trans hi)] at he;exact⟨_,zc hY.cells (i:=1) rfl,(k+1:Nat),(ze (by omega)).trans (by omega),zfd hY (k+1) fun Z hZ gZ sZ=>⟨k+1,(cvE rfl rfl),⟨ho,by omega,hZ,zd gY gZ⟩,zdc (by omega)⟩⟩
   ·have hi:¬ zjy s[k]=true:=(by rw [Qf];exact hd.symm.trans hi);rw [Gh hi] at he;exact⟨(),(cvE rfl rfl),by rw [<- he];exact hY,gY⟩
  ·have ho:s.length<=k:=by
    have:(!decide (s.length<=k))=false:=ho;simpa using this
   refine brF ?_;rw [zf7 ho] at he;exact⟨(),(cvE rfl rfl),by rw [<- he];exact hY,gY⟩
 clear h;rintro _ X ⟨hX,hg⟩;have hp:zK s a=match s[b]? with
   | some c=>if qb c=7 then b+jU zdZ (s.drop b) else b
   | none=>b:=by rw [hb];rfl
 refine⟨Unit,fun _=>⟨[(0,At0 g)],[]⟩,fun _ X=>(∃ hl:b<s.length,qb s[b]=7)/\ScV X g s b op/\w.grownBy X (some g),?_,?_⟩
 ·refine DrawE.ord [] [0,1,2,3,4,5,6,7,8,9,10,11,12,13,14] (by kernel_rfl) ?_;have hXd:ScV X.drew g s b op:=hX;refine cmo (zjb hXd.cells) ?_;rintro e Y ⟨rfl,hbY⟩;refine⟨hbY,?_⟩;have hY:=hXd.below hbY;have gY:w.grownBy Y (some g):=zd hg (zi ((UW _ X).drew.trans hbY));refine biE (fun ho=>?_) fun ho=>?_
  ·have ho:s.length<=b:=dT ho;refine brT ?_;have:zK s a=b:=by rw [hp,JJ ho]
   rw [this];exact⟨⟨_,rfl⟩,hY,gY⟩
  ·have ho:¬ s.length<=b:=dF ho;have hl:b<s.length:=by omega
   refine⟨_,zc hY.cells (i:=0) rfl,_,zc hY.cells (i:=1) rfl,b,rfl,hl,s[b],zcA hl,cmo (j8 _ _) ?_⟩;rintro e _ ⟨rfl,rfl⟩;refine⟨UW _ _,biE (fun hi=>?_) fun hi=>?_⟩
   ·have hi:¬ qb s[b]=7:=by
     have h1:(!decide ((qb s[b]:Int)=7))=true:=hi;simp at h1;omega
    have:zK s a=b:=(by rw [hp,gE hl];simp only [Gh hi]);rw [this];exact⟨⟨_,rfl⟩,hY,gY⟩
   ·have hi:qb s[b]=7:=by
     have h1:(!decide ((qb s[b]:Int)=7))=false:=hi;simp at h1;omega
    exact⟨(),(cvE rfl rfl),⟨hl,hi⟩,hY,gY⟩
 clear hX hg X;rintro _ X ⟨⟨hl,h7⟩,hX,hg⟩;have hp:zK s a=b+jU zdZ (s.drop b):=by rw [hp,gE hl];simp only [Gi h7]
 rw [hp];refine⟨Nat,fun k=>⟨[(0,At0 g)],[]⟩,fun k X=>k<=s.length/\k+jU zdZ (s.drop k)=b+jU zdZ (s.drop b)/\ScV X g s k op/\w.grownBy X (some g),fun k=>s.length-k,b,(cvE rfl rfl),⟨hbl,rfl,hX,hg⟩,?_⟩;clear hX hg X;rintro k X ⟨hk,he,hX,hg⟩;dsimp only at hk he ⊢;refine cmo (znu hX.cells (hlt hX)) ?_;rintro e Y ⟨rfl,hbY⟩;have hY:=hX.below hbY;have gY:=zge hg hbY;refine biE (fun hi=>?_) fun hi=>?_
 ·have hi:zac s k=false:=by
   have h1:(!zac s k)=true:=hi;simpa using h1
  have hkl:k<s.length:=by
   by_cases h0:k<s.length
   ·exact h0
   ·rw [zhF (by omega)] at hi;cases hi
  have hn:zdZ s[k]=true:=by
   rw [zcD hkl] at hi;unfold zdZ;rw [hi];rfl
  rw [zbG hkl,Gi hn] at he;exact⟨_,zc hY.cells (i:=1) rfl,(k+1:Nat),(ze (by omega)).trans (by omega),zfd hY (k+1) fun Z hZ gZ sZ=>⟨k+1,(cvE rfl rfl),⟨hkl,by omega,hZ,zd gY gZ⟩,zdc (by omega)⟩⟩
 ·have hi:zac s k=true:=by
   have h1:(!zac s k)=false:=hi;simpa using h1
  have h0:jU zdZ (s.drop k)=0:=by
   by_cases h0:k<s.length
   ·rw [zcD h0] at hi;rw [zbG h0,Gh];unfold zdZ;rw [hi];decide
   ·exact zf7 (by omega)
  rw [h0] at he;have he:k=b+jU zdZ (s.drop b):=by omega
  exact⟨⟨_,rfl⟩,by rw [<- he];exact hY,gY⟩
theorem zmR {s:List UInt8} {a:Nat} (ha:a<=s.length):zK s a<=s.length:=by
 have h1:zb8 s a<=s.length:=zkG s a ha;unfold zK
 split
 ·split
  ·exact zkG s _ h1
  ·exact h1
 ·exact h1
def jo:Enc Tok:=⟨fun t=>[u8 t.kind,qB t.text,i64 t.pos],3,fun _=>rfl,by decide,fun a u hu=>by
 simp only [Uy,Qs,Gf] at hu;rcases hu with rfl | rfl | rfl <;> rfl⟩
theorem zl9 {s:List UInt8} {a:Nat} (ha:a<s.length) (c:UInt8):a<za3 s a c/\za3 s a c<=s.length:=by
 unfold za3
 split
 ·have:=zkG (p:=qH) s (a+1) ha;omega
 ·split
  ·have:=zkG (p:=zbr) s (a+1) ha;omega
  ·split
   ·rename_i h;have h2:s[a+1]?=some 61:=by
     simp only [bAT,dE] at h;exact h.2
    have:=(Jr.1 h2).1;omega
   ·omega
theorem zml (s:List UInt8) (a e:Nat):(bs s).extract a e=bs ((s.drop a).take (e-a)):=by
 have h:((bs s).extract a e).data=(bs ((s.drop a).take (e-a))).data:=by
  rw [ByteArray.data_extract];apply Qb.1;rw [JS];rfl
 exact ByteArray.ext h
theorem zqT {g a:Nat} {s:List UInt8} {op:Bool} {w:Wd} (h:ScV w g s a op) (ha:a<s.length) (hs:s.length<=140737488351232) :
  Calls PG 184 #[At0 g] w fun e w'=>e = .returned (.agg (jo.enc (zjQ s a s[a])).toArray)/\ScV w' g s (za3 s a s[a]) op/\w.grownBy w' (some g):=by
 refine qk 51 [At0 g] (.s .p (.s .p (.c .p .p))) Tryz.func184 ?_;obtain⟨z,hz⟩:=nm (jo.enc ⟨0,[],0⟩);obtain⟨W0,hW0⟩:=nm ((w.alloc (.cells z.toArray 169)));have hb0:Bw w W0:=by rw [hW0];exact (zba _ _)
 have f0:W0.heap[w.heap.size]?=some (.cells z.toArray 169 (0,0)):=by rw [hW0];exact zy w _
 have h0:ScV W0 g s a op:=h.below hb0;have hgl:g<w.heap.size:=hlt h;refine⟨Nat,fun f=>⟨[(0,At0 g),(2,.pointer (some ⟨w.heap.size,0,none⟩)),(3,u8 (zfK s[a])),(4,.func (.func f) #[] #[])],[]⟩,fun f X=>Bw W0 X /\
  ((qb s[a]=3/\f=196)\/(¬ qb s[a]=3/\qb s[a]=4/\f=197)\/(¬ qb s[a]=3/\¬ qb s[a]=4/\f=195)),?_,?_⟩
 ·subst hz;subst hW0;refine DrawE.ord [] [0,1,2,3,4,5,6,7,8,9,10,11] (by kernel_rfl) ?_;have hd:ScV (w.alloc (.cells (jo.enc ⟨0,[],0⟩).toArray 169)).drew g s a op:=h0;refine⟨_,zc hd.cells (i:=0) rfl,_,zc hd.cells (i:=1) rfl,a,rfl,ha,s[a],zcA ha,cmo (j8 _ _) ?_⟩;rintro e _ ⟨rfl,rfl⟩;refine⟨UW _ _,biE (fun h3=>?_) fun h3=>?_⟩
  ·have h3:qb s[a]=3:=by have h3:(qb s[a]:Int)=3:=dT h3;omega
   exact⟨_,⟨.cons rfl (.cons rfl (.cons (by unfold zfK;rw [Gi h3];rfl) (.cons rfl .nil))),rfl⟩,(UW _ _).drew,.inl ⟨h3,rfl⟩⟩
  have h3:¬ qb s[a]=3:=by have h3:¬ (qb s[a]:Int)=3:=dF h3;omega
  refine biE (fun h4=>?_) fun h4=>?_
  ·have h4:qb s[a]=4:=by have h4:(qb s[a]:Int)=4:=dT h4;omega
   exact⟨_,⟨.cons rfl (.cons rfl (.cons (by unfold zfK;rw [Gh h3,Gi h4];rfl) (.cons rfl .nil))),rfl⟩,(UW _ _).drew,.inr (.inl ⟨h3,h4,rfl⟩)⟩
  ·have h4:¬ qb s[a]=4:=by have h4:¬ (qb s[a]:Int)=4:=dF h4;omega
   exact⟨_,⟨.cons rfl (.cons rfl (.cons (by unfold zfK;rw [Gh h3,Gh h4];rfl) (.cons rfl .nil))),rfl⟩,(UW _ _).drew,.inr (.inr ⟨h3,h4,rfl⟩)⟩
 rintro f V ⟨hV,hf⟩;dsimp only at hV hf ⊢;have hVs:=h0.below hV;obtain⟨e1,e2⟩:=zl9 ha s[a];have fin:∀ Y,Bw V Y->∀ Z,ScV Z g s (za3 s a s[a]) op->Y.grownBy Z (some g)->Bw w Y/\Z.heap[w.heap.size]?=some (.cells z.toArray 169 (0,0))/\w.grownBy Z (some g):=fun Y hY Z hZ gZ=>by
  have hwY:=((zst hb0 hV)).trans (hY.mono (by have:=hb0.size;have:=hV.size;omega));have f1:=zb hY (zb hV f0);refine⟨hwY,(gZ.block _ (hlt f1) (fun e=>by simp only [KW] at e;omega)).trans f1,zd (zi hwY) gZ⟩
 have last:∀ Z,Z.heap[w.heap.size]?=some (.cells z.toArray 169 (0,0))->w.grownBy Z (some g)->∀ R,Z.grownBy R (some w.heap.size)->w.grownBy R (some g):=fun Z _ gZ R gR =>
  ⟨gR.os.trans gZ.os,gR.tape.trans gZ.tape,gR.output.trans gZ.output,UI gZ.size gR.size,fun k hk hne=>(gR.block k (nL hk gZ.size) (fun e=>by simp only [KW] at e;omega)).trans (gZ.block k hk hne)⟩
 have fill:∀ cs,cs=jo.enc (zjQ s a s[a])->∀ Z,Z.heap[w.heap.size]?=some (.cells z.toArray 169 (0,0))->∀ (K:Wd->Prop),(∀ R,R.heap[w.heap.size]?=some (.cells (jo.enc (zjQ s a s[a])).toArray 169 (0,0))->Z.grownBy R (some w.heap.size)->K R) ->
   SatR ((storeVar 169 ⟨w.heap.size,0,none⟩ (.agg cs.toArray)).run PG Z) fun _ w'=>K w':=fun cs hcs Z fZ K k=>by
  subst hz hcs;exact zt (v := .agg (jo.enc (zjQ s a s[a])).toArray) zkD fZ rfl rfl rfl (k _ (zn fZ) (jC Z _ _))
 rcases hf with ⟨h3,rfl⟩ | ⟨h3,h4,rfl⟩ | ⟨h3,h4,rfl⟩
 ·refine⟨_,zc hVs.cells (i:=1) rfl,cmo (znB hVs.cells ha hs) ?_⟩;rintro e _ ⟨rfl,rfl⟩;have hbY:Bw V V:=UW _ _;have hVY:=hVs;have ee:a+1+jU qH (s.drop (a+1))=za3 s a s[a]:=by unfold za3;rw [Gi h3]
  rw [ee];refine zfd hVY (za3 s a s[a]) fun Z hZ gZ sZ=>?_;obtain⟨hwY,fZ,gwZ⟩:=fin V hbY Z hZ gZ;refine DrawE.ord [15] [0,1,2,3,4,5,6,7,8,9,10,11,12,13,14,15] (by kernel_rfl) ?_;have hZd:ScV Z.drew g s (za3 s a s[a]) op:=hZ;refine⟨_,zc hZd.cells (i:=0) rfl,_,zc hZd.cells (i:=1) rfl,za3 s a s[a],rfl,e2,a,rfl,by omega,?_⟩;exact⟨[u8 (zfK s[a]),.string ((bs s).extract a (za3 s a s[a])),i64 a],rfl,fill _ (by rw [zml];rfl) Z.drew fZ _ fun R fR gR=>⟨_,rfl,za fR,rfl,(gR.block g (hlt hZd) (fun e=>by simp only [KW] at e;omega)).trans hZd,last Z.drew fZ (zd gwZ (zi (UW _ Z).drew)) R gR⟩⟩
 ·refine⟨_,zc hVs.cells (i:=1) rfl,cmo (zkr hVs.cells ha hs) ?_⟩;rintro e _ ⟨rfl,rfl⟩;have hbY:Bw V V:=UW _ _;have hVY:=hVs;have ee:a+1+jU zbr (s.drop (a+1))=za3 s a s[a]:=by unfold za3;rw [Gh h3,Gi h4]
  rw [ee];refine zfd hVY (za3 s a s[a]) fun Z hZ gZ sZ=>?_;obtain⟨hwY,fZ,gwZ⟩:=fin V hbY Z hZ gZ;refine DrawE.ord [15] [0,1,2,3,4,5,6,7,8,9,10,11,12,13,14,15] (by kernel_rfl) ?_;have hZd:ScV Z.drew g s (za3 s a s[a]) op:=hZ;refine⟨_,zc hZd.cells (i:=0) rfl,_,zc hZd.cells (i:=1) rfl,za3 s a s[a],rfl,e2,a,rfl,by omega,?_⟩;exact⟨[u8 (zfK s[a]),.string ((bs s).extract a (za3 s a s[a])),i64 a],rfl,fill _ (by rw [zml];rfl) Z.drew fZ _ fun R fR gR=>⟨_,rfl,za fR,rfl,(gR.block g (hlt hZd) (fun e=>by simp only [KW] at e;omega)).trans hZd,last Z.drew fZ (zd gwZ (zi (UW _ Z).drew)) R gR⟩⟩
 ·refine⟨_,zc hVs.cells (i:=1) rfl,cmo (znM hVs.cells ha hs) ?_⟩;rintro e Y ⟨rfl,hbY⟩;have hVY:=hVs.below hbY;have ee:zgv s a s[a]=za3 s a s[a]:=by unfold za3;rw [Gh h3,Gh h4];rfl
  rw [ee];refine zfd hVY (za3 s a s[a]) fun Z hZ gZ sZ=>?_;obtain⟨hwY,fZ,gwZ⟩:=fin Y hbY Z hZ gZ;refine DrawE.ord [15] [0,1,2,3,4,5,6,7,8,9,10,11,12,13,14,15] (by kernel_rfl) ?_;have hZd:ScV Z.drew g s (za3 s a s[a]) op:=hZ;refine⟨_,zc hZd.cells (i:=0) rfl,_,zc hZd.cells (i:=1) rfl,za3 s a s[a],rfl,e2,a,rfl,by omega,?_⟩;exact⟨[u8 (zfK s[a]),.string ((bs s).extract a (za3 s a s[a])),i64 a],rfl,fill _ (by rw [zml];rfl) Z.drew fZ _ fun R fR gR=>⟨_,rfl,za fR,rfl,(gR.block g (hlt hZd) (fun e=>by simp only [KW] at e;omega)).trans hZd,last Z.drew fZ (zd gwZ (zi (UW _ Z).drew)) R gR⟩⟩
def zeb (l:List UInt8):Nat:=l.foldl (fun v c=>10*v+(c.toNat-48)) 0
theorem zoa {s:List UInt8} {k:Nat} (h:k<s.length):zeb (s.take (k+1))=10*zeb (s.take k)+(s[k].toNat-48):=by
 unfold zeb;rw [tsg h,KQ];rfl
theorem zr7 {c:UInt8} (h:zbr c=true):48<=c.toNat/\c.toNat<=57:=by
 unfold zbr at h;have h:qb c=4:=dT h;unfold qb at h
 cases h1:zfL c with
 | true=>rw [h1] at h;cases h
 | false =>
  rw [h1] at h
  cases h2:zhe c with
  | true=>unfold zhe at h2;simp at h2;omega
  | false =>
   rw [h2] at h
   revert h
   cases eqB c 32||eqB c 9 <;> cases eqB c 10 <;> cases eqB c 95 <;> cases eqB c 35 <;> cases zm3 c <;> (intro h;cases h)
theorem zun (s:List UInt8) (hs:s.length<=140737488351232) (w:Wd):Calls PG 186 #[qB s] w fun e w'=>∃ v,e = .returned (.tuple #[u8 v,.bool (zjf s)])/\w=w':=by
 refine qk 47 [qB s] (.s .p (.c .p .p)) Tryz.func186 ?_;have hnl:zjf s=(decide (1<=s.length)&&(decide (s.length<=3)&&(!(decide (s.head?=some 48)&&decide (1<s.length))&&(s.all zbr&&decide (zeb s<=255))))):=rfl;refine⟨Unit,fun _=>⟨[(0,qB s)],[]⟩,fun _ X=>(1<=s.length/\s.length<=3/\(decide (s.head?=some 48)&&decide (1<s.length))=false)/\w=X,?_,?_⟩
 ·refine biE (fun h1=>?_) fun h1=>?_
  ·have h1:(s.length:Int)<1:=dT h1;exact brT (brT ⟨0,by rw [hnl,Uc (by omega)];rfl,rfl⟩)
  have h1:¬ (s.length:Int)<1:=dF h1;refine biE (fun h2=>?_) fun h2=>?_
  ·have h2:(3:Int)<(s.length:Int):=dT h2;exact brT ⟨0,by rw [hnl,Uc (p:=s.length<=3) (by omega)];simp;rfl,rfl⟩
  have h2:¬ (3:Int)<(s.length:Int):=dF h2;have h0:0<s.length:=by omega
  have hh:s.head?=some s[0]:=by rw [List.head?_eq_getElem?,gE h0]
  refine⟨0,rfl,h0,s[0],zcA h0,biE (fun h3=>?_) fun h3=>?_⟩
  ·have h3:s[0]=48:=by
    apply Ub.1;have h3:((s[0].toNat:Nat):Int)=48:=dT h3;have:(48:UInt8).toNat=48:=rfl;omega
   refine biE (fun h4=>?_) fun h4=>?_
   ·have h4:(1:Int)<(s.length:Int):=dT h4;exact⟨0,by rw [hnl,hh,h3,Un (p:=1<s.length) (by omega)];simp;rfl,rfl⟩
   ·have h4:¬ (1:Int)<(s.length:Int):=dF h4;exact⟨(),(cvE rfl rfl),⟨by omega,by omega,by rw [Uc (p:=1<s.length) (by omega),Ud]⟩,rfl⟩
  ·refine brF ?_;exact⟨(),(cvE rfl rfl),⟨by omega,by omega,by
    have:¬ s[0]=48:=fun e=>by rw [e] at h3;cases h3
    rw [hh,Uc (by simpa using this),Ue]⟩,rfl⟩
 rintro _ _ ⟨⟨h1,h2,h3⟩,rfl⟩;have hnl:zjf s=(s.all zbr&&decide (zeb s<=255)):=by rw [hnl,Un h1,Un h2,h3];rfl
 rw [hnl];refine⟨Nat,fun k=>⟨[(0,qB s),(4,i64 (zeb (s.take k):Nat)),(25,i64 s.length),(26,i64 (k:Nat))],[]⟩,fun k X=>k<=s.length/\(∀ c∈s.take k,zbr c=true)/\zeb (s.take k)<10^k/\w=X,fun k=>s.length-k,0,(cvE rfl rfl),⟨UU _,by simp,Nat.one_pos,rfl⟩,?_⟩;rintro k _ ⟨hk,hdg,hv,rfl⟩;dsimp only at hk hdg hv ⊢;refine biE (fun hc=>?_) fun hc=>?_
 ·have hc:(k:Int)<(s.length:Int):=dT hc;have hl:k<s.length:=by omega
  refine⟨k,rfl,hl,s[k],zcA hl,cmo (j8 _ _) ?_⟩;rintro e _ ⟨rfl,rfl⟩;have hd:decide ((qb s[k]:Int)=4)=zbr s[k]:=zb4 (b:=4);refine biE (fun hi=>?_) fun hi=>?_
  ·have hi:zbr s[k]=false:=by
    have h1:(!decide ((qb s[k]:Int)=4))=true:=hi;rw [hd] at h1;simpa using h1
   have:s.all zbr=false:=by
    rw [KJ];exact⟨s[k],gM _,by rw [hi];simp⟩
   exact⟨0,by rw [this];rfl,rfl⟩
  ·have hi:zbr s[k]=true:=by
    have h1:(!decide ((qb s[k]:Int)=4))=false:=hi;rw [hd] at h1;simpa using h1
   obtain⟨d1,d2⟩:=zr7 hi;have hv3:zeb (s.take k)<1000:=nL hv (by
    have:k<=3:=(by omega);exact Kc (by decide) this)
   have hsn:=zoa hl;refine⟨((10*zeb (s.take k):Nat):Int),(ze (by omega)).trans (by omega),k,rfl,hl,s[k],zcA hl,((s[k].toNat-48:Nat):Int),(zep (by omega)).trans (by omega),((s[k].toNat-48:Nat):Int),(ze (by omega)).trans (by omega),(zeb (s.take (k+1)):Int),(ze (by omega)).trans (by omega),(k+1:Nat),(ze (by omega)).trans (by omega),k+1,(cvE rfl rfl),⟨hl,?_,?_,rfl⟩,zdc (by omega)⟩
   ·rw [tsg hl];intro c hc;rcases QM.1 hc with hc | hc
    ·exact hdg c hc
    ·simp only [Ky] at hc;rw [hc];exact hi
   ·rw [hsn,Nat.pow_succ];omega
 ·have hc:¬ (k:Int)<(s.length:Int):=dF hc;obtain rfl:k=s.length:=by omega
  rw [Qt] at hdg hv;have ha:s.all zbr=true:=Qg.2 hdg;rw [ha,Qt];have hv3:zeb s<1000:=nL hv (Kc (by decide) h2);refine biE (fun h5=>?_) fun h5=>?_
  ·have h5:(255:Int)<(zeb s:Int):=dT h5;exact⟨0,by rw [Uc (by omega)];rfl,rfl⟩
  ·have h5:¬ (255:Int)<(zeb s:Int):=dF h5;exact⟨((UInt8.ofNat (zeb s)).toNat:Int),(zep (by omega)).trans (by rw [KF];omega),UInt8.ofNat (zeb s),by rw [Un (by omega)];rfl,rfl⟩
theorem ztj {t:Tok} (h:t.kind=3) (hl:0<t.text.length):ju t=if qb t.text[0]=6 then 0 else 40:=by
 obtain⟨k,x,p⟩:=t;have h:k=3:=h;subst h
 cases x with
 | nil=>exact Gj hl (Nat.lt_irrefl 0)
 | cons a r=>rfl
theorem zrD (t:Tok) (ht:t.kind=3->t.text≠[]) (hs:t.text.length<=140737488351232) (w:Wd):CB 164 #[.agg (jo.enc t).toArray] w (i64 (ju t)):=by
 refine zF 30 [.agg (jo.enc t).toArray] Tryz.func164 ?_;have hb0:Bw w (w.alloc (.cells (jo.enc t).toArray 169)):=zba _ _;have f0:=zy w (.cells (jo.enc t).toArray 169);have c0:zI (w.alloc (.cells (jo.enc t).toArray 169)) ⟨w.heap.size,0,none⟩ [u8 t.kind,qB t.text,i64 t.pos]:=za f0;have kd:∀ k:UInt8,decide ((t.kind.toNat:Int)=(k.toNat:Int))=decide (t.kind=k):=fun k=>by
  rw [QB];exact qq
 refine⟨_,zc c0 (i:=0) rfl,biE (fun h1=>?_) fun h1=>?_⟩
 ·have h1:t.kind=1:=dT ((kd 1).symm.trans h1);have e:ju t=if 16<t.text.length then 42 else 0:=by unfold ju;rw [Gi h1]
  rw [e];refine⟨_,zc c0 (i:=1) rfl,biE (fun h2=>?_) fun h2=>?_⟩
  ·have h2:(16:Int)<(t.text.length:Int):=dT h2;exact⟨by rw [Gi (by omega)];rfl,hb0⟩
  ·have h2:¬ (16:Int)<(t.text.length:Int):=dF h2;exact⟨by rw [Gh (by omega)];rfl,hb0⟩
 have h1:¬ t.kind=1:=dF ((kd 1).symm.trans h1);refine biE (fun h2=>?_) fun h2=>?_
 ·have h2:t.kind=2:=dT ((kd 2).symm.trans h2);have e:ju t=if zjf t.text then 0 else 41:=by unfold ju;rw [Gh h1,Gi h2]
  rw [e];refine⟨_,zc c0 (i:=1) rfl,cmo (zun t.text hs _) ?_⟩;rintro e _ ⟨v,rfl,rfl⟩;refine biE (fun h3=>?_) fun h3=>?_
  ·have h3:(!zjf t.text)=true:=h3;have h3:zjf t.text=false:=by simpa using h3
   exact⟨by rw [h3];rfl,hb0⟩
  ·have h3:(!zjf t.text)=false:=h3;have h3:zjf t.text=true:=by simpa using h3
   exact⟨by rw [h3];rfl,hb0⟩
 have h2:¬ t.kind=2:=dF ((kd 2).symm.trans h2);refine biE (fun h3=>?_) fun h3=>?_
 ·have h3:t.kind=3:=dT ((kd 3).symm.trans h3);have hne:=ht h3;have hl:0<t.text.length:=List.length_pos_iff.2 hne;have e:ju t=if qb t.text[0]=6 then 0 else 40:=ztj h3 hl
  rw [e];refine⟨_,zc c0 (i:=1) rfl,0,rfl,hl,t.text[0],zcA hl,cmo (j8 _ _) ?_⟩;rintro e _ ⟨rfl,rfl⟩;refine biE (fun h4=>?_) fun h4=>?_
  ·have h4:(!decide ((qb t.text[0]:Int)=6))=true:=h4;have h4:¬ qb t.text[0]=6:=by simp at h4;omega
   exact⟨by rw [Gh h4];rfl,hb0⟩
  ·have h4:(!decide ((qb t.text[0]:Int)=6))=false:=h4;have h4:qb t.text[0]=6:=by simp at h4;omega
   exact⟨by rw [Gi h4];rfl,hb0⟩
 have h3:¬ t.kind=3:=dF ((kd 3).symm.trans h3);exact⟨by unfold ju;rw [Gh h1,Gh h2,Gh h3];rfl,hb0⟩
theorem zfo {a b c:Wd} {g r:Nat} (h:a.grownBy b (some g)) (k:b.grownBy c (some r)) (hr:a.heap.size<=r):a.grownBy c (some g) :=
 ⟨k.os.trans h.os,k.tape.trans h.tape,k.output.trans h.output,UI h.size k.size,fun i hi hne=>(k.block i (nL hi h.size) (fun e=>by simp only [KW] at e;omega)).trans (h.block i hi hne)⟩
theorem zri {x y:Int} {T:Array TypeId} {t:TypeId} {w:Wd} {K:Value->Wd->Prop} (k:K (.int .i64 (if y<x then y else x)) w):SatR ((Builtin.min_ T t [Value.int .i64 x,.int .i64 y].toArray).run PG w) K :=
 SatR.mk (v := .int .i64 (if y<x then y else x)) (w':=w) (by simp [Builtin.min_,Builtin.min2]) k
section
variable {s:List UInt8} {f a:Nat} {op:Bool}
theorem zku (h:zK s a<s.length) (h2:¬ qb s[zK s a]=2):zar s (f+1) a op=some (zjQ s (zK s a) s[zK s a],za3 s (zK s a) s[zK s a],true):=by
 unfold zar;rw [gE h];simp only [Gh h2]
theorem zgY (h:zac s (zK s a)=true):zar s (f+1) a true=some (⟨4,[],zK s a⟩,min (zK s a+1) s.length,false):=by
 unfold zar;by_cases hp:zK s a<s.length
 ·rw [zcD hp] at h;have h:=dT h;rw [gE hp];simp only [Gi h];rfl
 ·rw [JJ (by omega)];rfl
theorem zil (h:s.length<=zK s a):zar s (f+1) a false=none:=by
 unfold zar;rw [JJ h];rfl
theorem zim (h:zK s a<s.length) (h2:qb s[zK s a]=2):zar s (f+1) a false=zar s f (min (zK s a+1) s.length) false:=by
 conv=>lhs;unfold zar
 rw [gE h];simp only [Gi h2];rfl
theorem zmS:a<=zK s a:=by
 have h1:a<=zb8 s a:=Qv _ _;unfold zK
 split
 ·split
  ·omega
  ·exact h1
 ·exact h1
end
def zjI:Tok:=⟨0,[],0⟩
theorem zpu {g a:Nat} {s:List UInt8} {op:Bool} {w:Wd} (h:ScV w g s a op) (ha:a<=s.length) (hs:s.length<=140737488351232) :
  Calls PG 163 #[At0 g] w fun e w'=>∃ t a' op' ok,e = .returned (.tuple #[.agg (jo.enc t).toArray,.bool ok])/\(ok=true->zar s (s.length+2) a op=some (t,a',op'))/\(ok=false->zar s (s.length+2) a op=none) /\
   a'<=s.length/\ScV w' g s a' op'/\w.grownBy w' (some g):=by
 refine zF 57 [At0 g] Tryz.func163 ?_;obtain⟨r,hr⟩:=nm (w.heap.size);have hgl:g<r:=by rw [hr];exact hlt h
 obtain⟨W0,hW0⟩:=nm (w.alloc (.cells (jo.enc zjI).toArray 169));have hb0:Bw w W0:=by rw [hW0];exact (zba _ _)
 have f0:W0.heap[r]?=some (.cells (jo.enc zjI).toArray 169 (0,0)):=by rw [hW0,hr];exact zy w _
 have h0:ScV W0 g s a op:=h.below hb0;refine⟨Nat×Nat×Bool,fun k=>⟨[(0,At0 g),(2,At0 r)],[]⟩,fun k X=>s.length+1<=k.1+k.2.1/\k.2.1<=s.length/\zar s (k.1+1) k.2.1 k.2.2=zar s (s.length+2) a op/\ScV X g s k.2.1 k.2.2/\w.grownBy X (some g)/\X.heap[r]?=some (.cells (jo.enc zjI).toArray 169 (0,0)),
  fun k=>s.length-k.2.1,(s.length+1,a,op),⟨.cons rfl (.cons (by rw [hr];rfl) .nil),rfl⟩,⟨by omega,ha,rfl,by subst hW0;exact h0,by subst hW0;exact zi hb0,by subst hW0;exact f0⟩,?_⟩
 clear hW0 hb0 f0 h0 W0;rintro⟨f,k,o⟩ X ⟨hf,hk,hn,hX,gX,fX⟩;dsimp only at hf hk hn hX gX fX ⊢;have fillR:∀ (t:Tok) (Y:Wd),Y.heap[r]?=some (.cells (jo.enc zjI).toArray 169 (0,0))->∀ (K:Wd->Prop),(∀ R,R.heap[r]?=some (.cells (jo.enc t).toArray 169 (0,0))->Y.grownBy R (some r)->K R) ->
   SatR ((storeVar 169 ⟨r,0,none⟩ (.agg (jo.enc t).toArray)).run PG Y) fun _ w'=>K w':=fun t Y fY K q =>
  zt (v := .agg (jo.enc t).toArray) zkD fY rfl rfl rfl (q _ (zn fY) (jC Y _ _))
 have keepR:∀ {A B:Wd},A.grownBy B (some g)->A.heap[r]?=some (.cells (jo.enc zjI).toArray 169 (0,0))->B.heap[r]?=some (.cells (jo.enc zjI).toArray 169 (0,0)):=fun hg hA=>(hg.block _ (hlt hA) (fun e=>by simp only [KW] at e;omega)).trans hA;have keepS:∀ {A B:Wd} {a:Nat} {o:Bool} {q:Nat},A.grownBy B (some q)->g≠q->ScV A g s a o->ScV B g s a o:=fun hg hq hA=>(hg.block _ (hlt hA) (fun e=>hq (by simpa using e))).trans hA;refine cmo (zs6 hX hk hs) ?_;rintro e Y ⟨⟨v,rfl⟩,hY,gY⟩;have hp:=zmR (s:=s) hk;have hpk:=zmS (s:=s) (a:=k);have fY:=keepR gY fX;have gwY:=zd gX gY;refine cmo (znu hY.cells (hlt hY)) ?_;rintro e Z ⟨rfl,hbZ⟩;have hZ:=hY.below hbZ;have gwZ:=zge gwY hbZ;have fZ:=zb hbZ fY;refine biE (fun hc=>?_) fun hc=>?_
 ·have hc:zac s (zK s k)=false:=by
   have h1:(!zac s (zK s k))=true:=hc;simpa using h1
  have hl:zK s k<s.length:=by
   by_cases h1:zK s k<s.length
   ·exact h1
   ·rw [zhF (by omega)] at hc;cases hc
  rw [zcD hl] at hc;have hc:=dF hc;rw [zku hl hc] at hn;refine zkf hZ true fun U hU gU sU=>?_;have gwU:=zd gwZ gU;have fU:=keepR gU fZ;refine cmo (zqT hU hl hs) ?_;rintro e V ⟨rfl,hV,gV⟩;have gwV:=zd gwU gV;exact fillR _ V (keepR gV fU) _ fun R fR gR=>⟨_,rfl,za fR,_,_,_,true,rfl,fun _=>hn.symm,fun h=>(by cases h),(zl9 hl _).2,keepS gR (by omega) hV,zfo gwV gR (by omega)⟩
 have hc:zac s (zK s k)=true:=by
  have h1:(!zac s (zK s k))=false:=hc;simpa using h1
 refine⟨_,zc hZ.cells (i:=1) rfl,jo.enc ⟨4,[],zK s k⟩,rfl,zo (X:=Z) (v := .agg (jo.enc ⟨4,[],zK s k⟩).toArray) zkD rfl rfl rfl fun U hbU fU4 sU=>?_⟩;have fU4:U.heap[Z.heap.size]?=some (.cells (jo.enc ⟨4,[],zK s k⟩).toArray 169 (0,0)):=fU4;have hU:=hZ.below hbU;have gwU:=zge gwZ hbU;have fU:=zb hbU fZ;have hzs:r<Z.heap.size:=hlt fZ;refine cmo (zjb hU.cells) ?_;rintro e V ⟨rfl,hbV⟩;have hV:=hU.below hbV;have gwV:=zge gwU hbV;have fV:=zb hbV fU;have fV4:=zb hbV fU4;refine DrawE.ord [17] [0,1,2,3,4,5,6,7,8,9,10,11,12,13,14,15,16,17] (by kernel_rfl) ?_;have hVd:ScV V.drew g s (zK s k) o:=hV;refine⟨_,zc hVd.cells (i:=1) rfl,(zK s k+1:Nat),(ze (by omega)).trans (by omega),_,zc hVd.cells (i:=0) rfl,zri ⟨UW _ _,?_⟩⟩;have hmin:(if ((s.length:Nat):Int)<((zK s k+1:Nat):Int) then ((s.length:Nat):Int) else ((zK s k+1:Nat):Int))=((min (zK s k+1) s.length:Nat):Int):=by
  split <;> omega
 have e5:Value.int .i64 (if (((bs s).size:Nat):Int)<((zK s k+1:Nat):Int) then (((bs s).size:Nat):Int) else ((zK s k+1:Nat):Int))=i64 (min (zK s k+1) s.length:Nat):=by
  rw [show (bs s).size=s.length from rfl,hmin];rfl
 rw [e5];refine zfd hVd (min (zK s k+1) s.length) fun R hR gR sR=>?_;have gwR:=zd (zd gwV (zi (UW _ V).drew)) gR;have fR:=keepR gR (hdr fV);have fR4:R.heap[Z.heap.size]?=some (.cells (jo.enc ⟨4,[],zK s k⟩).toArray 169 (0,0)):=(gR.block _ (hlt (hdr fV4)) (fun e=>by simp only [KW] at e;omega)).trans (hdr fV4);refine⟨_,zc (za hR) (i:=2) rfl,biE (fun ho=>?_) fun ho=>?_⟩
 ·have ho:o=true:=ho;subst ho;rw [zgY hc] at hn;refine zkf hR false fun T hT gT sT=>?_;have gwT:=zd gwR gT;have fT:=keepR gT fR;have fT4:T.heap[Z.heap.size]?=some (.cells (jo.enc ⟨4,[],zK s k⟩).toArray 169 (0,0)):=(gT.block _ (hlt fR4) (fun e=>by simp only [KW] at e;omega)).trans fR4;exact⟨_,rfl,za fT4,hlt fT4,fillR ⟨4,[],zK s k⟩ T fT _ fun L fL gL=>⟨_,rfl,za fL,_,_,_,true,rfl,fun _=>hn.symm,fun h=>(by cases h),Qy _ _,keepS gL (by omega) hT,zfo gwT gL (by omega)⟩⟩
 ·have ho:o=false:=ho;subst ho;refine biE (fun h5=>?_) fun h5=>?_
  ·have h5:s.length<=zK s k:=dT h5;rw [zil h5] at hn;exact⟨jo.enc zjI,rfl,fillR zjI R fR _ fun L fL gL=>⟨_,rfl,za fL,_,_,_,false,rfl,fun h=>(by cases h),fun _=>hn.symm,Qy _ _,keepS gL (by omega) hR,zfo gwR gL (by omega)⟩⟩
  ·have h5:¬ s.length<=zK s k:=dF h5;have hl:zK s k<s.length:=by omega
   have h2:qb s[zK s k]=2:=by rw [zcD hl] at hc;exact dT hc
   rw [zim hl h2] at hn;have hmn:min (zK s k+1) s.length=zK s k+1:=QV (by omega);obtain⟨f',rfl⟩:∃ f',f=f'+1:=⟨f-1,by omega⟩;exact⟨(f',min (zK s k+1) s.length,false),(cvE rfl rfl),⟨by show _<=f'+min _ _;omega,Qy _ _,hn,hR,gwR,fR⟩,by show s.length-min _ _<s.length-k;omega⟩
def bOp (op:Bool):Nat:=if op then 1 else 0
theorem zlT {s:List UInt8} {f a a':Nat} {op op':Bool} {t:Tok} (h:zar s (f+1) a op=some (t,a',op')) :
  (∃ hl:zK s a<s.length,t=zjQ s (zK s a) s[zK s a]/\a'=za3 s (zK s a) s[zK s a]/\op'=true)\/(op=true/\t=⟨4,[],zK s a⟩/\a'=min (zK s a+1) s.length/\op'=false) \/
   (op=false/\zK s a<s.length/\zar s f (min (zK s a+1) s.length) false=some (t,a',op')):=by
 by_cases hp:zK s a<s.length
 ·by_cases h2:qb s[zK s a]=2
  ·cases op with
   | true =>
    rw [zgY (by rw [zcD hp];exact Un h2)] at h;simp only [KW,UB] at h;exact .inr (.inl ⟨rfl,h.1.symm,h.2.1.symm,h.2.2.symm⟩)
   | false =>
    rw [zim hp h2] at h;exact .inr (.inr ⟨rfl,hp,h⟩)
  ·rw [zku hp h2] at h;simp only [KW,UB] at h;exact .inl ⟨hp,h.1.symm,h.2.1.symm,h.2.2.symm⟩
 ·cases op with
  | true =>
   rw [zgY (zhF (by omega))] at h;simp only [KW,UB] at h;exact .inr (.inl ⟨rfl,h.1.symm,h.2.1.symm,h.2.2.symm⟩)
  | false=>rw [zil (by omega)] at h;cases h
theorem zdg {s:List UInt8} {t:Tok} {a':Nat} {op':Bool}:∀ {f a:Nat} {op:Bool},zar s f a op=some (t,a',op')->a<=s.length ->
  a'<=s.length/\2*(s.length-a')+bOp op'<2*(s.length-a)+bOp op/\(t.kind=3->t.text≠[])/\t.text.length<=s.length
 | 0,_,_,h,_=>by cases h
 | f+1,a,op,h,ha=>by
  have hpa:=zmS (s:=s) (a:=a);have hpl:=zmR ha;rcases zlT h with ⟨hl,rfl,rfl,rfl⟩ | ⟨rfl,rfl,rfl,rfl⟩ | ⟨rfl,hl,h'⟩
  ·obtain⟨e1,e2⟩:=zl9 hl s[zK s a];refine⟨e2,?_,fun _=>?_,?_⟩
   ·have:bOp true=1:=rfl;omega
   ·intro he;have h1:((s.drop (zK s a)).take (za3 s (zK s a) s[zK s a]-zK s a)).length=0:=by
     have:(zjQ s (zK s a) s[zK s a]).text=[]:=he;exact Gd List.length this
    rw [Qr,Qq] at h1;omega
   ·show ((s.drop (zK s a)).take _).length<=_;rw [Qr,Qq];omega
  ·refine⟨Qy _ _,?_,fun h=>(by cases h),UU _⟩;have h1:bOp true=1:=rfl;have h0:bOp false=0:=rfl;omega
  ·obtain⟨h1,h2,h3⟩:=zdg h' (Qy _ _);refine⟨h1,?_,h3⟩;omega
theorem zh4 {s:List UInt8} {f a a':Nat} {op op':Bool} {t:Tok} (h:zar s (s.length+2) a op=some (t,a',op')):zcl s (f+1) a op=t::zcl s f a' op':=by
 show (match zar s (s.length+2) a op with
  | some (t,a',op')=>t::zcl s f a' op'
  | none=>[])=_
 rw [h]
theorem zh3 {s:List UInt8} {f a:Nat} {op:Bool} (h:zar s (s.length+2) a op=none):zcl s (f+1) a op=[]:=by
 show (match zar s (s.length+2) a op with
  | some (t,a',op')=>t::zcl s f a' op'
  | none=>[])=_
 rw [h]
def StT (pre:List Tok) (vs:List Value) (_:Wd):Prop:=∃ t,pre.getLast?=some t/\vs=[.agg (jo.enc t).toArray,i64 (ju t)]
theorem zoV {g:Nat} {w:Wd}:Calls PG 130 #[At0 g] w fun e w'=>e = .returned (.func (.func 162) #[] #[.pointer (some ⟨w.heap.size,0,none⟩)])/\w'=w.alloc (.cells #[At0 g] 238):=by
 refine zF 4 [At0 g] Tryz.func130 ?_;exact⟨rfl,rfl⟩
theorem znE {g bx:Nat} {s:List UInt8} {W0:Wd} (h:ScV W0 g s 0 false) (hbx:W0.heap[bx]?=some (.cells #[At0 g] 238 (0,0))) (hne:bx≠g) (hs:s.length<=140737488351232) :
  zsK PG 162 [At0 bx] (q9 s) W0 (fun k=>k=bx) (fun k=>k=g) StT:=by
 intro yl Fp J Jx W hsz hrd hrf hJ hJx hy h0;have hbW:W.heap[bx]?=some (.cells #[At0 g] 238 (0,0)):=(hrd bx (.inl rfl)).trans hbx;have hgW:ScV W g s 0 false:=(hrd g (.inr rfl)).trans h;have hbs:bx<W0.heap.size:=hlt hbx;have hgs:g<W0.heap.size:=hlt h;refine zF 23 [.func (.yield yl) #[] #[],At0 bx] Tryz.func162 ?_
 let Inv:List Tok->Wd->Prop:=fun pre X=>J pre X/\W.heap.size<=X.heap.size/\X.heap[bx]?=some (.cells #[At0 g] 238 (0,0))/\¬ Fp X bx
 have stepG:∀ pre X Y,Inv pre X->X.grownBy Y (some g)->Inv pre Y/\∀ k,Fp Y k->Fp X k:=fun pre X Y ⟨h1,h2,h3,h4⟩ hg=>by
  have hst:StepO W.heap.size (fun k=>k=g) Fp X Y:=⟨hg.os,hg.tape,hg.output,hg.size,fun k hk hf=>hg.block k hk (fun e=>by
   have e:g=k:=(by simpa using e:k=g).symm;rcases hf with hf | hf
   ·exact hf.2 e.symm
   ·exact (hJ.lt _ _ _ h1 hf).2 e.symm)⟩
  obtain⟨j1,j2⟩:=hJ.step _ _ _ h1 hst;refine⟨⟨j1,UI h2 hg.size,(hg.block _ (hlt h3) (fun e=>hne (by simpa using e))).trans h3,fun hf=>h4 (j2 _ hf)⟩,j2⟩
 have stepB:∀ pre X Y,Inv pre X->Bw X Y->Inv pre Y/\∀ k,Fp Y k->Fp X k:=fun pre X Y hI hb=>stepG pre X Y hI (zi hb);have I0:Inv [] W:=⟨h0,UR _,hbW,hrf bx rfl⟩;refine⟨_,zc (za hbW) (i:=0) rfl,cmo (zpu hgW (UU _) hs) ?_⟩;rintro e Y ⟨t,a,op,ok,rfl,hok,hno,ha,hY,gY⟩;obtain⟨I1,_⟩:=stepG [] W Y I0 gY;refine zo (X:=Y) (v := .agg (jo.enc t).toArray) zkD rfl rfl rfl fun Z hbZ fZ sZ=>?_;have fZ:Z.heap[Y.heap.size]?=some (.cells (jo.enc t).toArray 169 (0,0)):=fZ;obtain⟨I2,q2⟩:=stepB [] Y Z I1 hbZ;refine⟨List Tok×Nat×Nat×Bool×Bool×Tok×Nat,fun q=>⟨[(0,.func (.yield yl) #[] #[]),(1,At0 bx),(3,.pointer (some ⟨q.2.2.2.2.2.2,0,none⟩)),(4,.bool q.2.2.2.2.1)],[]⟩,
  fun q X=>Inv q.1 X/\(q.2.2.2.2.1=true->q9 s=q.1++q.2.2.2.2.2.1::zcl s q.2.1 q.2.2.1 q.2.2.2.1)/\(q.2.2.2.2.1=false->q9 s=q.1)/\(q.2.2.2.2.1=true->2*(s.length-q.2.2.1)+bOp q.2.2.2.1<q.2.1)/\q.2.2.1<=s.length/\ScV X g s q.2.2.1 q.2.2.2.1 /\
   X.heap[q.2.2.2.2.2.2]?=some (.cells (jo.enc q.2.2.2.2.2.1).toArray 169 (0,0))/\W.heap.size<=q.2.2.2.2.2.2/\¬ Fp X q.2.2.2.2.2.2/\(q.2.2.2.2.1=true->(q.2.2.2.2.2.1.kind=3->q.2.2.2.2.2.1.text≠[])/\q.2.2.2.2.2.1.text.length<=s.length),
  fun q=>q.2.1,([],2*s.length+2,a,op,ok,t,Y.heap.size),(cvE rfl rfl),⟨I2,?_,?_,?_,ha,hY.below hbZ,fZ,gY.size,?_,?_⟩,?_⟩
 ·intro h1;exact zh4 (hok h1)
 ·intro h1;exact zh3 (hno h1)
 ·intro h3;have:=(zdg (hok h3) (UU _)).2.1;have h0:bOp false=0:=rfl;dsimp only;omega
 ·intro hf;have h9:Y.heap.size<Y.heap.size:=(hJ.lt _ _ _ I1.1 (q2 _ hf)).1;omega
 ·intro h1;exact (zdg (hok h1) (UU _)).2.2
 clear I2 q2 fZ hbZ sZ I1 gY hY hok hno ha;rintro⟨pre,f,a,op,ok,t,tb⟩ X ⟨hI,h1,h2,hf,ha,hX,ft,htb,hft,hgd⟩;dsimp only at hI h1 h2 hf ha hX ft htb hft hgd ⊢;refine biE (fun hok=>?_) fun hok=>?_
 ·have hok:ok=true:=hok;subst hok;have h1:=h1 rfl;have hf:=hf rfl;obtain⟨g1,g2⟩:=hgd rfl;have hpre:(pre++[t]) <+: q9 s:=⟨zcl s f a op,by rw [h1];simp⟩;refine DrawE.ord [4] [0,1,2,3,4,5] (by kernel_rfl) ⟨_,rfl,za (hdr ft),hlt (hdr ft),_,rfl,za (hdr ft),hlt (hdr ft),cmo (zrD t g1 (by omega) X.drew) ?_⟩;rintro e U ⟨rfl,hbU⟩;refine⟨hbU,?_⟩;have hXU:Bw X U:=(UW _ X).drew.trans hbU;obtain⟨IU,qU⟩:=stepB pre X U hI hXU;have fU:=zb hXU ft;have hU:=hX.below hXU;have hftU:¬ Fp U tb:=fun h=>hft (qU _ h);refine YieldR.mono (hy pre t _ U IU.1 ⟨t,by simp,rfl⟩ hpre) ?_;rintro v V (⟨rfl,hJV,hKV⟩ | ⟨rfl,hJV⟩)
  ·refine Ga (fun h=>by cases h) (fun _=>?_);have IU':=IU;obtain⟨_,iu2,iu3,iu4⟩:=IU';have hUs:=hKV.size;have hgF:¬ Fp U g:=fun h=>(hJ.lt _ _ _ IU.1 h).2 rfl;have hbV:V.heap[bx]?=_:=(hKV.same bx (hlt iu3) iu4).trans iu3;have hV:ScV V g s a op:=(hKV.same g (hlt hU) hgF).trans hU;have fV:=(hKV.same tb (hlt fU) hftU).trans fU;have nF:∀ k,k<U.heap.size->¬ Fp U k->¬ Fp V k:=fun k hk h1 h2=>by
    rcases hKV.fp k h2 with h3 | h3
    ·exact h1 h3
    ·omega
   have IV:Inv (pre++[t]) V:=⟨hJV,by omega,hbV,nF bx (hlt iu3) iu4⟩;refine⟨_,rfl,za fV,hlt fV,zo (X:=V) (v := .agg (jo.enc t).toArray) zkD rfl rfl rfl fun R hbR fR sR=>?_⟩;have fR:R.heap[V.heap.size]?=some (.cells (jo.enc t).toArray 169 (0,0)):=fR;obtain⟨IR,qR⟩:=stepB (pre++[t]) V R IV hbR;have hnR:¬ Fp R V.heap.size:=fun h=>by have:=(hJ.lt _ _ _ IV.1 (qR _ h)).1;omega
   refine⟨_,zc (za IR.2.2.1) (i:=0) rfl,cmo (zpu (hV.below hbR) ha hs) ?_⟩;rintro e L ⟨t',a',op',ok',rfl,hok',hno',ha',hL,gL⟩;obtain⟨IL,qL⟩:=stepG (pre++[t]) R L IR gL;have hVs:W.heap.size<=V.heap.size:=IV.2.1;have hgV:g≠V.heap.size:=by omega
   have hbV2:bx≠V.heap.size:=by omega
   have fL:L.heap[V.heap.size]?=some (.cells (jo.enc t).toArray 169 (0,0)):=(gL.block _ (hlt fR) (fun e=>hgV (by simpa using e.symm))).trans fR;refine zt (v := .agg (jo.enc t').toArray) zkD fL rfl rfl rfl ?_;obtain⟨f',rfl⟩:∃ f',f=f'+1:=⟨f-1,by omega⟩;have hnL:¬ Fp L V.heap.size:=fun h=>hnR (qL _ h);have hst:StepO W.heap.size (fun k=>k=g) Fp L (L.setRow V.heap.size (Value.agg (jo.enc t').toArray).cells):=⟨rfl,rfl,rfl,by simp,fun k hk hf=>zq (fun e=>by
    subst e;rcases hf with hf | hf
    ·omega
    ·exact hnL hf)⟩
   obtain⟨j1,j2⟩:=hJ.step _ _ _ IL.1 hst;refine⟨(pre++[t],f',a',op',ok',t',V.heap.size),(cvE rfl rfl),⟨⟨j1,by simp;exact IL.2.1,(zq hbV2).trans IL.2.2.1,fun h=>IL.2.2.2 (j2 _ h)⟩,?_,?_,?_,ha',(zq hgV).trans hL,zn fL,hVs,fun h=>hnL (j2 _ h),?_⟩,by show f'<f'+1;omega⟩
   ·intro h3;rw [h1];show pre++t::zcl s (f'+1) a op=(pre++[t])++_;rw [zh4 (hok' h3)];simp
   ·intro h3;rw [h1];show pre++t::zcl s (f'+1) a op=pre++[t];rw [zh3 (hno' h3)]
   ·intro h3;have:=(zdg (hok' h3) ha).2.1;dsimp only;omega
   ·intro h3;exact (zdg (hok' h3) ha).2.2
  ·exact Ga (fun _=>Ga ⟨_,rfl⟩ (.inr ⟨_,hpre,hJV⟩)) (fun h=>by cases h)
 ·have hok:ok=false:=hok;subst hok;have h2:=h2 rfl;exact⟨⟨_,rfl⟩,.inl (by rw [h2];exact hI.1)⟩
def zdi (s:List UInt8):Bool:=decide (s.length<=16384)&&(q9 s).all (fun t=>decide (ju t=0))
theorem zjP {s:List UInt8}:∀ {f a:Nat} {op:Bool},(zcl s f a op).length<=f
 | 0,_,_=>UR _
 | f+1,a,op=>by
  unfold zcl
  split
  ·exact Nat.succ_le_succ zjP
  ·exact UU _
def FpX (L:Nat) (X:Wd) (k:Nat):Prop:=k=L\/k=L+1\/k=L+2\/∃ a n cap,X.heap[L]?=some (.cells #[.slice (some a) n cap] 164 (0,0))/\k=a.block
structure ResX (L:Nat) (X:Wd) (v:Value) (pl er:Int):Prop where
 l:X.heap[L]?=some (.cells #[v] 164 (0,0))
 p:X.heap[L+1]?=some (.cells #[i64 pl] 3 (0,0))
 e:X.heap[L+2]?=some (.cells #[i64 er] 56 (0,0))
def JX (w:Wd) (L B:Nat) (pre:List Tok) (X:Wd):Prop:=Bw w X/\(∀ t∈pre,ju t=0)/\∃ p cap,ResX L X (.slice p pre.length cap) 0 0/\OwnS jo 169 B X p cap pre
def JxX (w:Wd) (L:Nat) (pre:List Tok) (X:Wd):Prop:=Bw w X/\(∃ t∈pre,ju t≠0)/\∃ pl er,ResX L X (.slice none 0 0) pl er/\er≠0
theorem FpX.row {L:Nat} {X:Wd} {p:OA} {n cap:Nat} {pl er:Int} (h:ResX L X (.slice p n cap) pl er) {k:Nat} (hf:FpX L X k):k=L\/k=L+1\/k=L+2\/∃ a,p=some a/\k=a.block:=by
 rcases hf with hf | hf | hf | ⟨a,n',cap',h1,h2⟩
 ·exact .inl hf
 ·exact .inr (.inl hf)
 ·exact .inr (.inr (.inl hf))
 ·have:=h.l;rw [h1] at this;simp at this;exact .inr (.inr (.inr ⟨a,this.1.symm,h2⟩))
theorem ResX.same {L:Nat} {A B:Wd} {v:Value} {pl er:Int} (h:ResX L A v pl er) (hs:∀ k,k=L\/k=L+1\/k=L+2->B.heap[k]?=A.heap[k]?):ResX L B v pl er :=
 ⟨(hs L (.inl rfl)).trans h.l,(hs _ (.inr (.inl rfl))).trans h.p,(hs _ (.inr (.inr rfl))).trans h.e⟩
theorem JX.iter {w:Wd} {L B n0 g:Nat} (hw:w.heap.size<=L) (hL:L+2<g) (hg:g<n0) (hB:B=n0):IterJO n0 (fun k=>k=g) (FpX L) (JX w L B):=by
 subst hB;refine⟨fun pre A C ⟨hb,hf,p,cap,hr,ho⟩ hs=>?_,fun pre A k ⟨hb,hf,p,cap,hr,ho⟩ hk=>?_⟩
 ·have hr':ResX L C (.slice p pre.length cap) 0 0:=hr.same fun k hk=>hs.same k (by rcases hk with rfl | rfl | rfl;exact hlt hr.l;exact hlt hr.p;exact hlt hr.e) (.inl ⟨by omega,by omega⟩);have zc3:∀ a,p=some a->C.heap[a.block]?=A.heap[a.block]?:=fun a ha=>by
   rcases ho.inv with ⟨rfl,_⟩ | ⟨g',cur,rfl,_,hg',_⟩
   ·cases ha
   ·cases ha
    exact hs.same _ (hlt hg') (.inr (.inr (.inr (.inr ⟨_,_,_,hr.l,rfl⟩))))
  refine⟨⟨⟨hs.os.trans hb.os,hs.tape.trans hb.tape,hs.output.trans hb.output,UI hb.size hs.size,fun k hk=>(hs.same k (nL hk hb.size) (.inl ⟨by omega,by omega⟩)).trans (hb.block k hk)⟩,hf,p,cap,hr',ho.same zc3⟩,fun k hk=>?_⟩;rcases FpX.row hr' hk with rfl | rfl | rfl | ⟨a,rfl,rfl⟩
  ·exact .inl rfl
  ·exact .inr (.inl rfl)
  ·exact .inr (.inr (.inl rfl))
  ·exact .inr (.inr (.inr ⟨_,_,_,hr.l,rfl⟩))
 ·rcases FpX.row hr hk with rfl | rfl | rfl | ⟨a,rfl,rfl⟩
  ·exact⟨hlt hr.l,by omega⟩
  ·exact⟨hlt hr.p,by omega⟩
  ·exact⟨hlt hr.e,by omega⟩
  ·rcases ho.inv with ⟨h,_⟩ | ⟨g',cur,h,hB,hg',_⟩
   ·cases h
   ·cases h
    exact⟨hlt hg',by show ¬ g'=g;omega⟩
theorem JxX.iter {w:Wd} {L n0 g:Nat} (hw:w.heap.size<=L) (hL:L+2<g) (hg:g<n0):IterJO n0 (fun k=>k=g) (FpX L) (JxX w L):=by
 refine⟨fun pre A C ⟨hb,hf,pl,er,hr,he⟩ hs=>?_,fun pre A k ⟨hb,hf,pl,er,hr,he⟩ hk=>?_⟩
 ·have hr':ResX L C (.slice none 0 0) pl er:=hr.same fun k hk=>hs.same k (by rcases hk with rfl | rfl | rfl;exact hlt hr.l;exact hlt hr.p;exact hlt hr.e) (.inl ⟨by omega,by omega⟩);refine⟨⟨⟨hs.os.trans hb.os,hs.tape.trans hb.tape,hs.output.trans hb.output,UI hb.size hs.size,fun k hk=>(hs.same k (nL hk hb.size) (.inl ⟨by omega,by omega⟩)).trans (hb.block k hk)⟩,hf,pl,er,hr',he⟩,fun k hk=>?_⟩;rcases FpX.row hr' hk with rfl | rfl | rfl | ⟨a,h,_⟩
  ·exact .inl rfl
  ·exact .inr (.inl rfl)
  ·exact .inr (.inr (.inl rfl))
  ·cases h
 ·rcases FpX.row hr hk with rfl | rfl | rfl | ⟨a,h,_⟩
  ·exact⟨hlt hr.l,by omega⟩
  ·exact⟨hlt hr.p,by omega⟩
  ·exact⟨hlt hr.e,by omega⟩
  ·cases h
abbrev nl0:Value := .slice none 0 0
theorem zup (s:List UInt8) (hs:s.length<=140737488351232) (w:Wd) :
  Calls PG 96 #[qB s] w fun e w'=>∃ p cap n pl er,e = .returned (.tuple #[.slice p n cap,i64 pl,i64 er])/\(zdi s=true->er=0/\n=(q9 s).length/\SlR jo w' p (q9 s))/\(zdi s=false->er≠0)/\Bw w w':=by
 refine qk 27 [qB s] (.c .p (.c .p .p)) Tryz.func96 ?_;obtain⟨L,hL⟩:=nm (w.heap.size);have z1:(w.alloc (.cells #[nl0] 164)).heap.size=L+1:=by rw [wz,hL]
 have z2:((w.alloc (.cells #[nl0] 164)).alloc (.cells #[i64 0] 3)).heap.size=L+2:=by rw [wz,z1]
 obtain⟨W0,hW0⟩:=nm (((w.alloc (.cells #[nl0] 164)).alloc (.cells #[i64 0] 3)).alloc (.cells #[i64 0] 56));have hb0:Bw w W0:=by rw [hW0];exact (((zba _ _)).alloc (by simp) _).alloc (by rw [z2];omega) _
 have hs0:W0.heap.size=L+3:=by rw [hW0,wz,z2]
 have r0:ResX L W0 nl0 0 0:=by
  rw [hW0];refine⟨?_,?_,?_⟩
  ·rw [hL];exact qJ _ (qJ _ (zy w _))
  ·rw [<- z1];exact qJ _ (zy _ _)
  ·rw [<- z2];exact zy _ _
 have p1:some (Value.pointer (some ⟨(w.alloc (.cells #[nl0] 164)).heap.size,0,none⟩))=some (At0 (L+1)):=by rw [z1]
 have p2:some (Value.pointer (some ⟨((w.alloc (.cells #[nl0] 164)).alloc (.cells #[i64 0] 3)).heap.size,0,none⟩))=some (At0 (L+2)):=by rw [z2]
 have put3:∀ (X:Wd) (v0:Value) (a0 b0:Int),ResX L X v0 a0 b0->∀ (pl er:Int) (K:Wd->Prop),(∀ Y,ResX L Y (.slice none 0 0) pl er->Below w.heap.size X Y->X.heap.size=Y.heap.size->(∀ k,k≠L->k≠L+1->k≠L+2->Y.heap[k]?=X.heap[k]?)->K Y) ->
   SatR ((storeVar 164 ⟨L,0,none⟩ (.slice none 0 0)).run PG X) fun _ Y1=>SatR ((storeVar 3 ⟨L+1,0,none⟩ (i64 pl)).run PG Y1) fun _ Y2=>SatR ((storeVar 56 ⟨L+2,0,none⟩ (i64 er)).run PG Y2) fun _ Y3=>K Y3:=by
  intro X v0 a0 b0 hr pl er K k;refine zt (v := .slice none 0 0) zro hr.l rfl rfl rfl ?_;have q1:(X.setRow L (Value.slice none 0 0).cells).heap[L+1]?=some (.cells #[i64 a0] 3 (0,0)):=(zq (by omega)).trans hr.p;refine zt (v:=i64 pl) k3 q1 rfl rfl rfl ?_;have q2:((X.setRow L (Value.slice none 0 0).cells).setRow (L+1) (i64 pl).cells).heap[L+2]?=some (.cells #[i64 b0] 56 (0,0)):=(zq (by omega)).trans ((zq (by omega)).trans hr.e);refine zt (v:=i64 er) k56 q2 rfl rfl rfl (k _ ⟨?_,?_,zn q2⟩ ?_ (by simp) ?_)
  ·exact (zq (by omega)).trans ((zq (by omega)).trans (zn hr.l))
  ·exact (zq (by omega)).trans (zn q1)
  ·exact zl (zl (zl (UW _ X) (by omega) _) (by omega) _) (by omega) _
  ·intro k h1 h2 h3;exact (zq h3).trans ((zq h2).trans (zq h1))
 refine⟨Unit,fun _=>⟨[(0,qB s),(2,At0 L),(3,At0 (L+1)),(4,At0 (L+2))],[]⟩,fun _ X=>W0=X,?_,?_⟩
 ·exact⟨(),⟨.cons rfl (.cons (by rw [hL];rfl) (.cons p1 (.cons p2 .nil))),rfl⟩,hW0⟩
 clear hW0 p1 p2 z1 z2;rintro _ _ rfl;refine⟨Unit,fun _=>⟨[(0,qB s),(2,At0 L),(3,At0 (L+1)),(4,At0 (L+2))],[]⟩,fun _ X=>s.length<=16384/\W0=X,?_,?_⟩
 ·refine biE (fun h=>?_) fun h=>?_
  ·have h:(16384:Int)<(s.length:Int):=dT h;have hno:zdi s=false:=by unfold zdi;rw [Uc (by omega)];rfl
   exact put3 W0 _ _ _ r0 0 3 _ fun Y hY hb hsz _=>⟨_,zc (za hY.l) (i:=0) rfl,_,zc (za hY.p) (i:=0) rfl,_,zc (za hY.e) (i:=0) rfl,none,0,0,0,3,rfl,fun h=>(by rw [hno] at h;cases h),fun _=>by decide,hb0.trans hb⟩
  ·have h:¬ (16384:Int)<(s.length:Int):=dF h;exact⟨(),(cvE rfl rfl),by omega,rfl⟩
 rintro _ _ ⟨hln,rfl⟩;refine⟨[qB s,i64 0],rfl,[qB s,i64 0,.bool false],rfl,zo (X:=W0) (v := .agg #[qB s,i64 0,.bool false]) zuH rfl rfl rfl fun V hbV fV sV=>?_⟩;have hV:ScV V W0.heap.size s 0 false:=fV;refine cmo zoV ?_;rintro e W1 ⟨rfl,hW1⟩;have sW1:W1.heap.size=W0.heap.size+2:=by rw [hW1,wz,sV]
 have hb1:Bw V W1:=by rw [hW1];exact (zba _ _)
 have hbx:W1.heap[W0.heap.size+1]?=some (.cells #[.pointer (some ⟨W0.heap.size,0,none⟩)] 238 (0,0)):=by
  rw [hW1,<- sV];exact zy V _
 have hg1:ScV W1 W0.heap.size s 0 false:=hV.below hb1;have hb01:Bw W0 W1:=zst hbV hb1;have hbw1:Bw w W1:=zst hb0 hb01;have r1:ResX L W1 nl0 0 0:=r0.same fun k hk=>hb01.block k (by omega);have hlen:(q9 s).length<=40000:=UI zjP (by omega);have hok1:(∀ t∈q9 s,ju t=0)->zdi s=true:=fun h=>by
  unfold zdi;rw [Un hln,Ut,Qg];exact fun t ht=>Un (h t ht)
 have hok2:(∃ t∈q9 s,ju t≠0)->zdi s=false:=fun ⟨t,ht,hf⟩=>by
  unfold zdi;rw [Un hln,Ut,KJ];exact⟨t,ht,by simpa using hf⟩
 rw [sV];refine zsY (ze7 _) rfl (lb := #[.pointer (some ⟨W0.heap.size+1,0,none⟩)]) rfl rfl (znE hg1 hbx (by omega) hs) (UR _) (fun k hk=>⟨by rcases hk with rfl | rfl <;> omega,rfl⟩) (fun pre vs W ⟨t,_,h⟩=>by rw [h];rfl) (by decide)
  (FpX L) (JX w L W1.heap.size) (fun ex pre X=>ex = .ret/\JxX w L pre X) ?_ (JX.iter (by omega) (by omega) (by omega) rfl) (fun ex=>?_) ?_ ?_ ?_ ?_
 ·intro k hk hf;rcases FpX.row r1 hf with h | h | h | ⟨a,h,_⟩
  ·omega
  ·omega
  ·omega
  ·cases h
 ·have hJ:=JxX.iter (w:=w) (L:=L) (n0:=W1.heap.size) (g:=W0.heap.size) (by omega) (by omega) (by omega);exact⟨fun pre A C ⟨h1,h2⟩ hs=>⟨⟨h1,(hJ.step _ _ _ h2 hs).1⟩,(hJ.step _ _ _ h2 hs).2⟩,fun pre A k ⟨_,h2⟩ hf=>hJ.lt _ _ _ h2 hf⟩
 ·exact⟨hbw1,fun t ht=>(by cases ht),none,0,r1,.nil⟩
 ·intro yl pre x vs W hyl hpre hJ hst hfy hly;obtain⟨t,ht,rfl⟩:=hst;have ht:t=x:=by simpa using ht.symm
  subst ht;have hIt:=JX.iter (w:=w) (L:=L) (B:=W1.heap.size) (n0:=W1.heap.size) (g:=W0.heap.size) (by omega) (by omega) (by omega) rfl;refine zo (X:=W) (v := .agg (jo.enc t).toArray) zkD rfl rfl rfl fun R hbR fR sR=>?_;have fR:R.heap[W.heap.size]?=some (.cells (jo.enc t).toArray 169 (0,0)):=fR;obtain⟨jR,qR⟩:=hIt.step pre W R hJ (Step.of_below hbR).o;refine⟨rfl,Keeps.of_below hbR (fun k hk => .inl (qR k hk)),jR,?_⟩;rintro o W2 hW2 ⟨hbW,hfl,p,cap,hr,ho⟩ hF2;have f2:W2.heap[W.heap.size]?=some (.cells (jo.enc t).toArray 169 (0,0)):=by rw [hW2,zj (by omega)];exact fR
  have s2:W2.heap.size=R.heap.size:=by rw [hW2];simp [World.putObj]
  have hLW:W1.heap.size<=W.heap.size:=by
   have:=hlt hr.l;obtain⟨hbW',_⟩:=hJ;omega
  refine biE (fun h=>?_) fun h=>?_
  ·have h:ju t≠0:=by
    have h1:(!decide (ju t=0))=true:=h;simpa using h1
   have hrd:ResX L W2.drew (.slice p pre.length cap) 0 0:=⟨hr.l,hr.p,hr.e⟩;have hd:W2.drew.heap.size=W2.heap.size:=rfl;have fin:∀ Y,ResX L Y (.slice none 0 0) t.pos (ju t)->Below w.heap.size W2.drew Y->W2.drew.heap.size=Y.heap.size->(∀ k,k≠L->k≠L+1->k≠L+2->Y.heap[k]?=W2.drew.heap[k]?)->(Exit.ret=Exit.ret/\JxX w L (pre++[t]) Y)/\Keeps (FpX L) W2 Y:=fun Y hY hbY hsY hoY=>by
    have hbY2:Bw w Y:=hbW.trans ((UW w.heap.size W2).drew.trans hbY);refine⟨⟨rfl,hbY2,⟨t,by simp,h⟩,_,_,hY,h⟩,hbY.os,hbY.tape,hbY.output,by rw [<- hsY,hd];exact UR _,fun k hk hf=>hoY k (fun e=>hf (.inl e)) (fun e=>hf (.inr (.inl e))) (fun e=>hf (.inr (.inr (.inl e)))),fun k hk=>?_⟩;rcases FpX.row hY hk with h1 | h1 | h1 | ⟨a,h1,_⟩
    ·exact .inl (.inl h1)
    ·exact .inl (.inr (.inl h1))
    ·exact .inl (.inr (.inr (.inl h1)))
    ·cases h1
   refine DrawE.treeQ [3,4,5] (.op 0 (.op 2 (.alt (.op 3 (.op 1 (.op 4 (.op 5 .nil)))) (.op 1 (.op 3 (.op 4 (.op 5 .nil))))))) (by kernel_rfl) (Ga ?_ ?_)
   ·refine zt (v := .slice none 0 0) zro hrd.l rfl rfl rfl ?_;have q0:(W2.drew.setRow L (Value.slice none 0 0).cells).heap[W.heap.size]?=some (.cells (jo.enc t).toArray 169 (0,0)):=(zq (by omega)).trans (hdr f2);refine⟨_,zc (za q0) (i:=2) rfl,?_⟩;have q1:(W2.drew.setRow L (Value.slice none 0 0).cells).heap[L+1]?=some (.cells #[i64 0] 3 (0,0)):=(zq (by omega)).trans hrd.p;refine zt (v:=i64 t.pos) k3 q1 rfl rfl rfl ?_;have q2:((W2.drew.setRow L (Value.slice none 0 0).cells).setRow (L+1) (i64 t.pos).cells).heap[L+2]?=some (.cells #[i64 0] 56 (0,0)):=(zq (by omega)).trans ((zq (by omega)).trans hrd.e);refine zt (v:=i64 (ju t)) k56 q2 rfl rfl rfl (fin _ ⟨?_,?_,zn q2⟩ ?_ (by simp) ?_)
    ·exact (zq (by omega)).trans ((zq (by omega)).trans (zn hrd.l))
    ·exact (zq (by omega)).trans (zn q1)
    ·exact zl (zl (zl (UW _ W2.drew) (by omega) _) (by omega) _) (by omega) _
    ·intro k h1 h2 h3;exact (zq h3).trans ((zq h2).trans (zq h1))
   ·exact⟨_,zc (za (hdr f2)) (i:=2) rfl,put3 W2.drew _ _ _ hrd t.pos (ju t) _ fin⟩
  ·have h:ju t=0:=by
    have h1:(!decide (ju t=0))=false:=h;simpa using h1
   refine⟨_,zc (za hr.l) (i:=0) rfl,_,rfl,za f2,hlt f2,⟨by decide,by decide,rfl⟩,jo.enc t,zaZ (jo.len t) rfl,?_⟩;have hpl:pre.length+1<=40000:=by
    have:=hpre.length_le;simp at this;omega
   refine jj (E:=jo) (news:=[t]) (B:=W1.heap.size) Tryz.underlying164 zkD rfl rfl rfl (ho.alloc _) rfl (qK jo t) (by simp;omega) (by show pre.length+1<=_;omega) (by show (pre.length+1)*32<=_;omega) ?_;intro p3 cap3 W4 ho4 hg4 hb4 hat;have hL2:L<W2.heap.size:=hlt hr.l;have hr3:ResX L (W2.alloc (.cells (jo.enc t).toArray 169)) (.slice p pre.length cap) 0 0:=⟨qJ _ hr.l,qJ _ hr.p,qJ _ hr.e⟩;have hr4:ResX L W4 (.slice p pre.length cap) 0 0:=hr3.same fun k hk=>hb4.block k (by omega);refine zt (v := .slice p3 (pre++[t]).length cap3) zro hr4.l rfl rfl rfl ?_;have hr5:ResX L (W4.setRow L (Value.slice p3 (pre++[t]).length cap3).cells) (.slice p3 (pre++[t]).length cap3) 0 0:=⟨zn hr4.l,(zq (by omega)).trans hr4.p,(zq (by omega)).trans hr4.e⟩;have hbB:Below w.heap.size W2 (W4.setRow L (Value.slice p3 (pre++[t]).length cap3).cells) :=
    zl (((UW _ W2).alloc (by omega) _).trans (hb4.mono (by omega))) (by omega) _
   refine Ga ⟨hbW.trans hbB,fun u hu=>?_,p3,cap3,hr5,ho4.same fun a ha=>?_⟩ ⟨hbB.os,hbB.tape,hbB.output,hbB.size,fun k hk hf=>?_,fun k hk=>?_⟩
   ·rcases QM.1 hu with hu | hu
    ·exact hfl u hu
    ·simp only [Ky] at hu;rw [hu];exact h
   ·refine zq ?_;rcases ho4.inv with ⟨h1,_⟩ | ⟨g',_,h1,h2,_⟩
    ·rw [h1] at ha;cases ha
    ·rw [h1] at ha;cases ha;dsimp only;omega
   ·have h1:k≠L:=fun e=>hf (.inl e);rw [zq h1];refine (hg4.block k (by simp;omega) ?_).trans ?_
    ·intro e
     cases p with
     | none=>simp [Value.ownBlock] at e
     | some a =>
      simp only [Value.ownBlock,KW] at e;exact hf (.inr (.inr (.inr ⟨a,_,_,hr.l,e⟩)))
    ·show (W2.heap.push _)[k]?=_;rw [Array.getElem?_push,Gh (Nat.ne_of_lt hk)]
   ·rcases FpX.row hr5 hk with h1 | h1 | h1 | ⟨a,ha,rfl⟩
    ·exact .inl (.inl h1)
    ·exact .inl (.inr (.inl h1))
    ·exact .inl (.inr (.inr (.inl h1)))
    ·rcases hat a ha with h1 | h1
     ·exact .inl (.inr (.inr (.inr ⟨a,_,_,h1▸hr.l,rfl⟩)))
     ·refine .inr ?_;rw [h1];simp
 ·intro D W hD hfD hJ hdef;obtain⟨hbW,hfl,p,cap,hr,ho⟩:=hJ;refine⟨_,zc (za hr.l) (i:=0) rfl,zt (v := .slice p (q9 s).length cap) zro hr.l rfl rfl rfl ?_⟩;have q1:(W.setRow L (Value.slice p (q9 s).length cap).cells).heap[L+1]?=some (.cells #[i64 0] 3 (0,0)):=(zq (by omega)).trans hr.p;refine zt (v:=i64 0) k3 q1 rfl rfl rfl ?_;have q2:((W.setRow L (Value.slice p (q9 s).length cap).cells).setRow (L+1) (i64 0).cells).heap[L+2]?=some (.cells #[i64 0] 56 (0,0)):=(zq (by omega)).trans ((zq (by omega)).trans hr.e);refine zt (v:=i64 0) k56 q2 rfl rfl rfl ?_;obtain⟨S,hS⟩:=nm (((W.setRow L (Value.slice p (q9 s).length cap).cells).setRow (L+1) (i64 0).cells).setRow (L+2) (i64 0).cells);have rS:ResX L S (.slice p (q9 s).length cap) 0 0:=by
   rw [hS];exact⟨(zq (by omega)).trans ((zq (by omega)).trans (zn hr.l)),(zq (by omega)).trans (zn q1),zn q2⟩
  have bS:Below w.heap.size W S:=by rw [hS];exact zl (zl (zl (UW _ W) (by omega) _) (by omega) _) (by omega) _
  have oS:∀ k,k≠L->k≠L+1->k≠L+2->S.heap[k]?=W.heap[k]?:=fun k h1 h2 h3=>by rw [hS];exact (zq h3).trans ((zq h2).trans (zq h1))
  have dS:S.heap[D]?=some (.deferred (some [])):=(oS D (by omega) (by omega) (by omega)).trans hdef;rw [<- hS];refine⟨_,rfl,dS,?_⟩;have rP:ResX L (S.putObj D (.deferred none)) (.slice p (q9 s).length cap) 0 0:=rS.same fun k hk=>zj (by omega);refine⟨_,zc (za rP.l) (i:=0) rfl,_,zc (za rP.p) (i:=0) rfl,_,zc (za rP.e) (i:=0) rfl,p,cap,(q9 s).length,0,0,rfl,fun _=>⟨rfl,rfl,?_⟩,fun h=>?_,q8 (hbW.trans bS) (by omega) _⟩
  ·exact (ho.same fun a ha=>by
    have hne:a.block≠L/\a.block≠L+1/\a.block≠L+2/\a.block≠D:=by
     rcases ho.inv with ⟨h1,_⟩ | ⟨g',_,h1,h2,h3,_⟩
     ·rw [h1] at ha;cases ha
     ·rw [h1] at ha;cases ha;refine⟨by dsimp only;omega,by dsimp only;omega,by dsimp only;omega,fun e=>?_⟩;have e:g'=D:=e;rw [e,hdef] at h3;cases h3
    exact (zj hne.2.2.2).trans (oS _ hne.1 hne.2.1 hne.2.2.1)).row
  ·rw [hok1 hfl] at h;cases h
 ·rintro D ex pre W hD hfD hpre ⟨rfl,hbW,⟨t,ht,hft⟩,pl,er,hr,her⟩ hdef;refine⟨_,rfl,hdef,?_⟩;have rP:ResX L (W.putObj D (.deferred none)) (.slice none 0 0) pl er:=hr.same fun k hk=>zj (by omega);refine⟨_,zc (za rP.l) (i:=0) rfl,_,zc (za rP.p) (i:=0) rfl,_,zc (za rP.e) (i:=0) rfl,none,0,0,pl,er,rfl,fun h=>?_,fun _=>her,q8 hbW (by omega) _⟩;rw [hok2 ⟨t,hpre.subset ht,hft⟩] at h;cases h
theorem zpK (s:List UInt8) (hs:s.length<=140737488351232) (w:Wd):CB 60 #[qB s] w (.bool (zdI s)):=by
 refine zF 34 [qB s] Tryz.func60 ?_;have hdef:zdI s=(zdi s&&zoU (q9 s) s):=by
  unfold zdI zdi;rw [Bool.and_assoc]
 refine cmo (zup s hs w) ?_;rintro e V ⟨p,cap,n,pl,er,rfl,h1,h2,hb⟩
 cases hk:zdi s with
 | false =>
  have her:=h2 hk;rw [hdef,hk,Ue];exact brN (by exact Uc her) (brF (brF ⟨rfl,hb⟩))
 | true =>
  obtain⟨rfl,rfl,hr⟩:=h1 hk;rw [hdef,hk,Ut];refine brT (biE (fun h=>?_) fun h=>?_)
  ·have h:(q9 s).length=2:=by have h:((q9 s).length:Int)=2:=dT h;omega
   match hx:q9 s,h with
   | [t,u],_ =>
    rw [hx] at hr;obtain⟨b,o,rfl,hbb,hc⟩:=hr.at (i:=0) (by simp);have hc:=hc 0 (by simp);refine⟨0,rfl,(by show 0<2;omega),_,zc hc (i:=0) rfl,?_⟩;have kd:decide ((t.kind.toNat:Int)=1)=decide (t.kind=1):=(by rw [QB];exact qq (y:=1));refine biE (fun h=>?_) fun h=>?_
    ·have h:decide (t.kind=1)=true:=kd.symm.trans h;exact⟨0,rfl,(by show 0<2;omega),_,zc hc (i:=1) rfl,_,fun w=>jh _ _ t.text s w,rb (by unfold zoU;simp only [h,Ut]),hb⟩
    ·have h:decide (t.kind=1)=false:=kd.symm.trans h;exact⟨rb (by unfold zoU;simp only [h,Ue]),hb⟩
  ·have h:¬ (q9 s).length=2:=by have h:¬ ((q9 s).length:Int)=2:=dF h;omega
   refine brF ⟨rb ?_,hb⟩;have gen:∀ l:List Tok,¬ l.length=2->false=zoU l s:=fun l hl=>by
    match l,hl with
    | [],_=>rfl
    | [_],_=>rfl
    | [_,_],hl=>exact Gj rfl hl
    | _::_::_::_,_=>rfl
   exact gen _ h
theorem ztR (s:List UInt8) (w:Wd):Calls PG 132 #[qB s] w fun e w'=>e = .returned (.bool (zhd s))/\w=w':=by
 refine zF 22 [qB s] Tryz.func132 ?_;refine⟨_,fun w=>jh _ _ s [116,101,115,116] w,?_⟩;refine biE (fun h=>?_) fun h0=>?_
 ·refine brE h ?_;exact⟨rb (Qh.2 ⟨[116,101,115,116],by decide,h⟩).symm,rfl⟩
 refine⟨_,fun w=>jh _ _ s [105,110,105,116] w,?_⟩;refine biE (fun h=>?_) fun h1=>?_
 ·refine brE h ?_;exact⟨rb (Qh.2 ⟨[105,110,105,116],by decide,h⟩).symm,rfl⟩
 refine⟨_,fun w=>jh _ _ s [116,104,114,101,97,100] w,?_⟩;refine biE (fun h=>?_) fun h2=>?_
 ·refine brE h ?_;exact⟨rb (Qh.2 ⟨[116,104,114,101,97,100],by decide,h⟩).symm,rfl⟩
 refine⟨_,fun w=>jh _ _ s [115,111,109,101] w,?_⟩;refine biE (fun h=>?_) fun h3=>?_
 ·refine brE h ?_;exact⟨rb (Qh.2 ⟨[115,111,109,101],by decide,h⟩).symm,rfl⟩
 refine⟨_,fun w=>jh _ _ s [110,111,110,101] w,?_⟩;refine biE (fun h=>?_) fun h4=>?_
 ·refine brE h ?_;exact⟨rb (Qh.2 ⟨[110,111,110,101],by decide,h⟩).symm,rfl⟩
 refine⟨_,fun w=>jh _ _ s [97,108,108] w,?_⟩;refine biE (fun h=>?_) fun h5=>?_
 ·refine brE h ?_;exact⟨rb (Qh.2 ⟨[97,108,108],by decide,h⟩).symm,rfl⟩
 refine⟨_,fun w=>jh _ _ s [97,99,113] w,?_⟩;refine biE (fun h=>?_) fun h6=>?_
 ·refine brE h ?_;exact⟨rb (Qh.2 ⟨[97,99,113],by decide,h⟩).symm,rfl⟩
 refine⟨_,fun w=>jh _ _ s [114,101,108] w,?_⟩;refine biE (fun h=>?_) fun h7=>?_
 ·refine brE h ?_;exact⟨rb (Qh.2 ⟨[114,101,108],by decide,h⟩).symm,rfl⟩
 refine⟨_,fun w=>jh _ _ s [115,119,97,112] w,?_⟩;refine biE (fun h=>?_) fun h8=>?_
 ·refine brE h ?_;exact⟨rb (Qh.2 ⟨[115,119,97,112],by decide,h⟩).symm,rfl⟩
 refine⟨_,fun w=>jh _ _ s [102,101,116,99,104] w,?_⟩;refine biE (fun h=>?_) fun h9=>?_
 ·refine brE h ?_;exact⟨rb (Qh.2 ⟨[102,101,116,99,104],by decide,h⟩).symm,rfl⟩
 refine⟨_,fun w=>jh _ _ s [99,97,115] w,?_⟩;refine biE (fun h=>?_) fun h10=>?_
 ·refine brE h ?_;exact⟨rb (Qh.2 ⟨[99,97,115],by decide,h⟩).symm,rfl⟩
 refine⟨_,fun w=>jh _ _ s [102,101,110,99,101] w,?_⟩;refine biE (fun h=>?_) fun h11=>?_
 ·refine brE h ?_;exact⟨rb (Qh.2 ⟨[102,101,110,99,101],by decide,h⟩).symm,rfl⟩
 refine⟨_,fun w=>jh _ _ s [108,111,97,100,115] w,?_⟩;refine biE (fun h=>?_) fun h12=>?_
 ·refine brE h ?_;exact⟨rb (Qh.2 ⟨[108,111,97,100,115],by decide,h⟩).symm,rfl⟩
 refine⟨_,fun w=>jh _ _ s [115,116,111,114,101,115] w,?_⟩;refine biE (fun h=>?_) fun h13=>?_
 ·refine brE h ?_;exact⟨rb (Qh.2 ⟨[115,116,111,114,101,115],by decide,h⟩).symm,rfl⟩
 refine⟨_,fun w=>jh _ _ s [115,107,105,112] w,?_⟩;refine biE (fun h=>?_) fun h14=>?_
 ·refine brE h ?_;exact⟨rb (Qh.2 ⟨[115,107,105,112],by decide,h⟩).symm,rfl⟩
 refine⟨_,fun w=>jh _ _ s [105,102] w,?_⟩;refine biE (fun h=>?_) fun h15=>?_
 ·refine brE h ?_;exact⟨rb (Qh.2 ⟨[105,102],by decide,h⟩).symm,rfl⟩
 refine⟨_,fun w=>jh _ _ s [116,114,117,101] w,?_⟩;refine biE (fun h=>?_) fun h16=>?_
 ·exact⟨rb (Qh.2 ⟨[116,114,117,101],by decide,h⟩).symm,rfl⟩
 exact⟨rb (by unfold zhd zsA;simp only [Uw,List.any_nil,h0,h1,h2,h3,h4,h5,h6,h7,h8,h9,h10,h11,h12,h13,h14,h15,h16];rfl),rfl⟩
theorem ztO (s:List UInt8) (hs:s.length<=140737488351232) (w:Wd):Calls PG 97 #[qB s] w fun e w'=>e = .returned (.bool (zeI s))/\w=w':=by
 refine qk 55 [qB s] (.s .p (.c .p (.s .p (.c .p .p)))) Tryz.func97 ?_;refine⟨Unit,fun _=>⟨[(0,qB s)],[]⟩,fun _ X=>(∃ c r,s=c::r/\r.length+1<=16/\qb c=3/\zhd s=false)/\w=X,?_,?_⟩
 ·refine biE (fun h=>?_) fun h=>?_
  ·have h:(s.length:Int)<1:=dT h;have h0:s=[]:=Je (by omega);subst h0;refine brT ?_;refine brT ?_;refine brT ?_;exact⟨rfl,rfl⟩
  have h:¬ (s.length:Int)<1:=dF h;obtain⟨c,r,rfl⟩:∃ c r,s=c::r:=by
   cases s with
   | nil=>simp at h
   | cons c r=>exact⟨c,r,rfl⟩
  have hdef:zeI (c::r)=(decide (r.length+1<=16)&&(decide (qb c=3)&&(!zhd (c::r)&&(r.all qH&&(!decide (c=114)||(decide (qX r=0)||decide (qX r<r.length))))))):=rfl;have hsz:(((bs (c::r)).size:Nat):Int)=(r.length+1:Nat):=rfl;refine biE (fun h2=>?_) fun h2=>?_
  ·have h2:(16:Int)<((r.length+1:Nat):Int):=dT h2;refine brT ?_;refine brT ?_;exact⟨rb (by rw [hdef,Uc (by omega)];rfl),rfl⟩
  have h2:¬ (16:Int)<((r.length+1:Nat):Int):=dF h2;refine⟨0,rfl,Nat.succ_pos _,c,rfl,?_⟩;refine cmo (j8 c _) ?_;rintro e _ ⟨rfl,rfl⟩;refine biE (fun h3=>?_) fun h3=>?_
  ·have h3:¬ qb c=3:=by
    have h1:(!decide ((qb c:Int)=3))=true:=h3;simp at h1;omega
   refine brT ?_;exact⟨rb (by rw [hdef,Uc h3];simp),rfl⟩
  have h3:qb c=3:=by
   have h1:(!decide ((qb c:Int)=3))=false:=h3;simp at h1;omega
  refine cmo (ztR (c::r) _) ?_;rintro e _ ⟨rfl,rfl⟩;refine biE (fun h4=>?_) fun h4=>?_
  ·have h4:zhd (c::r)=true:=h4;exact⟨rb (by rw [hdef,h4];simp),rfl⟩
  ·exact⟨(),(cvE rfl rfl),⟨c,r,rfl,by omega,h3,h4⟩,rfl⟩
 rintro _ _ ⟨⟨c,r,rfl,h1,h3,h4⟩,rfl⟩;have hdef:zeI (c::r)=(r.all qH&&(!decide (c=114)||(decide (qX r=0)||decide (qX r<r.length)))):=by
  show (decide (r.length+1<=16)&&(decide (qb c=3)&&(!zhd (c::r)&&(r.all qH&&(!decide (c=114)||(decide (qX r=0)||decide (qX r<r.length)))))))=_;rw [Un h1,Un h3,h4];rfl
 rw [hdef];refine⟨Unit,fun _=>⟨[(0,qB (c::r)),(3,i64 (qX r:Nat))],[]⟩,fun _ X=>r.all qH=true/\w=X,?_,?_⟩
 ·refine⟨Nat,fun k=>⟨[(0,qB (c::r)),(3,i64 (qX (r.take k):Nat)),(4,i64 (k+1:Nat))],[]⟩,fun k X=>k<=r.length/\(∀ d∈r.take k,qH d=true)/\qX (r.take k)<=k/\w=X,fun k=>r.length-k,0,(cvE rfl rfl),⟨UU _,by simp,UR _,rfl⟩,?_⟩;rintro k _ ⟨hk,hw,hdk,rfl⟩;dsimp only at hk hw hdk ⊢;refine biE (fun hc=>?_) fun hc=>?_
  ·have hc:((k+1:Nat):Int)<((r.length+1:Nat):Int):=dT hc;have hl:k<r.length:=by omega
   have hat:(bs (c::r)).data.toList[k+1]?=some r[k]:=by
    show (c::r)[k+1]?=_;rw [Jv,gE hl]
   refine⟨k+1,rfl,(by show k+1<r.length+1;omega),r[k],hat,?_⟩;refine cmo (zkF _ _) ?_;rintro e _ ⟨rfl,rfl⟩;refine biE (fun hi=>?_) fun hi=>?_
   ·have hi:(!qH r[k])=true:=hi;have hi:qH r[k]=false:=(by simpa using hi);have:r.all qH=false:=by
     rw [KJ];exact⟨r[k],gM _,by rw [hi];simp⟩
    exact⟨rb (by rw [this];rfl),rfl⟩
   have hi:(!qH r[k])=false:=hi;have hi:qH r[k]=true:=by simpa using hi
   have hw':∀ d∈r.take (k+1),qH d=true:=by
    rw [tsg hl];intro d hd;rcases QM.1 hd with hd | hd
    ·exact hw d hd
    ·simp only [Ky] at hd;rw [hd];exact hi
   have hds:qX (r.take (k+1))=qX (r.take k)+(if zbr r[k]=true then 1 else 0):=by
    unfold qX;rw [tsg hl,Kt,lap];congr 1;by_cases h:zbr r[k]=true
    ·rw [Gi h,List.filter_cons_of_pos h];rfl
    ·rw [Gh h,List.filter_cons_of_neg h];rfl
   refine⟨k+1,rfl,(by show k+1<r.length+1;omega),r[k],hat,?_⟩;refine cmo (j8 _ _) ?_;rintro e _ ⟨rfl,rfl⟩;have hd:decide ((qb r[k]:Int)=4)=zbr r[k]:=zb4 (b:=4);refine biE (fun hg=>?_) fun hg=>?_
   ·have hg:zbr r[k]=true:=hd.symm.trans hg;rw [Gi hg] at hds;refine⟨(qX (r.take (k+1)):Int),(ze (by omega)).trans (by omega),?_⟩;refine⟨((k+1+1:Nat):Int),(ze (by omega)).trans (by omega),?_⟩;exact⟨k+1,(cvE rfl rfl),⟨hl,hw',by omega,rfl⟩,zdc (by omega)⟩
   ·have hg:¬ zbr r[k]=true:=(by rw [Qf];exact hd.symm.trans hg);rw [Gh hg] at hds;refine⟨((k+1+1:Nat):Int),(ze (by omega)).trans (by omega),?_⟩;exact⟨k+1,⟨.cons rfl (.cons (by rw [hds];rfl) (.cons rfl .nil)),rfl⟩,⟨hl,hw',by omega,rfl⟩,zdc (by omega)⟩
  ·have hc:¬ ((k+1:Nat):Int)<((r.length+1:Nat):Int):=dF hc;obtain rfl:k=r.length:=by omega
   rw [Qt] at hw;exact⟨(),⟨.cons rfl (.cons (by rw [Qt];rfl) .nil),rfl⟩,Qg.2 hw,rfl⟩
 rintro _ _ ⟨hall,rfl⟩;rw [hall,Ut];have hdl:qX r<=r.length:=JL _ _;refine⟨0,rfl,Nat.succ_pos _,c,rfl,?_⟩;have cd:decide ((c.toNat:Int)=114)=decide (c=114):=by rw [QB];exact qq (y:=114)
 refine biE (fun h=>?_) fun h=>?_
 ·have h:(!decide (c=114))=true:=by
   have h:(!decide ((c.toNat:Int)=114))=true:=h
   rwa [cd] at h
  refine brT ?_;exact⟨rb (by rw [h];rfl),rfl⟩
 have h:(!decide (c=114))=false:=by
  have h:(!decide ((c.toNat:Int)=114))=false:=h
  rwa [cd] at h
 rw [h,Uq];refine biE (fun h5=>?_) fun h5=>?_
 ·have h5:qX r=0:=by have h5:(qX r:Int)=0:=dT h5;omega
  exact⟨rb (by rw [Un h5];rfl),rfl⟩
 have h5:¬ qX r=0:=by have h5:¬ (qX r:Int)=0:=dF h5;omega
 refine⟨(r.length:Nat),(ze (by show -9223372036854775808<=((r.length+1:Nat):Int)-1/\((r.length+1:Nat):Int)-1<=9223372036854775807;omega)).trans (by show ((r.length+1:Nat):Int)-1=_;omega),?_⟩;exact⟨rb (by rw [Uc h5,Uq,QB];omega),rfl⟩
theorem zso (p:OA) (cap:Nat) (l:List (List UInt8)) (s:List UInt8) (w:Wd) (hl:SlR zkv w p l) (hn:l.length<=140737488351232) :
  Calls PG 134 #[.slice p l.length cap,qB s] w fun e w'=>∃ n:Int,e = .returned (i64 n)/\decide (0<=n)=l.any (fun q=>decide (q=s))/\w=w':=by
 refine zF 19 [.slice p l.length cap,qB s] Tryz.func134 ?_;refine⟨Nat,fun k=>⟨[(0,.slice p l.length cap),(1,qB s),(7,i64 l.length),(8,i64 (k:Nat))],[]⟩,fun k X=>k<=l.length/\(∀ q∈l.take k,¬ q=s)/\w=X,fun k=>l.length-k,0,(cvE rfl rfl),⟨UU _,by simp,rfl⟩,?_⟩;rintro k _ ⟨hk,hno,rfl⟩;dsimp only at hk hno ⊢;refine biE (fun hc=>?_) fun hc=>?_
 ·have hc:(k:Int)<(l.length:Int):=dT hc;have hkl:k<l.length:=by omega
  obtain⟨b,o,rfl,hb,hat⟩:=hl.at hkl;refine⟨k,rfl,hkl,?_⟩;refine⟨_,zc (hat k hkl) (i:=0) rfl,?_⟩;refine⟨_,fun w=>jh _ _ s l[k] w,?_⟩;refine biE (fun h=>?_) fun h=>?_
  ·have h:s=l[k]:=dT h;refine⟨k,rfl,?_,rfl⟩;rw [Un (by omega)];symm;rw [Qh];exact⟨l[k],gM _,Un h.symm⟩
  ·have h:¬ s=l[k]:=dF h;refine⟨(k+1:Nat),(ze (by omega)).trans (by omega),?_⟩;refine⟨k+1,(cvE rfl rfl),⟨hkl,?_,rfl⟩,zdc (by omega)⟩;rw [tsg hkl];intro q hq;rcases QM.1 hq with hq | hq
   ·exact hno q hq
   ·simp only [Ky] at hq;rw [hq];exact fun e=>h e.symm
 ·have hc:¬ (k:Int)<(l.length:Int):=dF hc;obtain rfl:k=l.length:=by omega
  rw [Qt] at hno;refine⟨-1,rfl,?_,rfl⟩;symm;show _=false;rw [KK];exact fun q hq=>by simpa using hno q hq
theorem zmo (p:OA) (cap:Nat) (l:List (List UInt8)) (s:List UInt8) (w:Wd) (hl:SlR zkv w p l) (hn:l.length<=140737488351232) :
  Calls PG 98 #[.slice p l.length cap,qB s] w fun e w'=>e = .returned (.bool (l.any fun q=>decide (q=s)))/\w=w':=by
 refine zF 9 [.slice p l.length cap,qB s] Tryz.func98 ?_;refine cmo (zso p cap l s w hl hn) ?_;rintro e _ ⟨n,rfl,h,rfl⟩;exact⟨rb h,rfl⟩
def GlobC (w:Wd):Prop:=zI w ⟨0,0,none⟩ (zeG.map u8)
theorem GlobC.below {w w2:Wd} (h:GlobC w) (hb:Bw w w2):GlobC w2:=zr hb h
def spC (x:InsD) (locs after:Nat):List Value:=[u8 x.op,u8 x.dst,u8 x.loc,.bool x.ar,u8 x.an,.bool x.br,u8 x.bn,u8 x.fn,u8 x.mode,u8 x.skip,i64 locs,i64 after]
theorem u8d (x k:UInt8):decide ((x.toNat:Int)=(k.toNat:Int))=decide (x=k):=by rw [QB];exact qq
theorem zsM (a b:UInt8):IntKind.u8.wrap ((BitVec.ofInt IntKind.u8.bits (a.toNat:Int)&&&BitVec.ofInt IntKind.u8.bits (b.toNat:Int)).toNat:Int)=((a&&&b).toNat:Int):=by
 have h:∀ x:UInt8,BitVec.ofInt 8 (x.toNat:Int)=x.toBitVec:=fun x=>by
  apply BitVec.eq_of_toNat_eq;rw [Kq];have:=x.toNat_lt;show ((x.toNat:Int)%(2^8:Nat)).toNat=x.toNat;omega
 show IntKind.u8.wrap ((BitVec.ofInt 8 (a.toNat:Int)&&&BitVec.ofInt 8 (b.toNat:Int)).toNat:Int)=_;rw [h,h];have e:(a.toBitVec&&&b.toBitVec).toNat=(a&&&b).toNat:=rfl;rw [e];have:=(a&&&b).toNat_lt;exact zep (by omega)
theorem zeN {g locs after:Nat} {x:InsD} {w:Wd} (bit:UInt8) (h:zI w ⟨g,0,none⟩ (spC x locs after)) (hop:x.op.toNat<=8) (hG:GlobC w) :
  Calls PG 140 #[At0 g,u8 bit] w fun e w'=>e = .returned (.bool (jG x.op bit))/\w=w':=by
 refine zF 15 [At0 g,u8 bit] Tryz.func140 ?_;refine⟨_,zc h (i:=0) rfl,x.op.toNat,rfl,(by show x.op.toNat<9;omega),?_⟩;have hn:(zeG.map u8)[x.op.toNat]?=some (u8 (zeG.getD x.op.toNat 0)):=by
  have hl:x.op.toNat<zeG.length:=by show _<9;omega
  rw [KR,gE hl,gDe,gE hl];rfl
 refine⟨u8 (zeG.getD x.op.toNat 0),by rw [US];exact zc hG hn,?_⟩;exact⟨((zeG.getD x.op.toNat 0&&&bit).toNat:Int),zsM _ _,rb (by unfold jG;rw [<- u8d];rfl),rfl⟩
theorem zhH (r:Bool) (n:UInt8) (w:Wd):CB 142 #[.agg #[.bool r,u8 n]] w (.bool (zjA r n)):=by
 refine zF 11 [.agg #[.bool r,u8 n]] Tryz.func142 ?_;have hb0:Bw w (w.alloc (.cells #[.bool r,u8 n] 53)):=zba _ _;have c0:=za (zy w (.cells #[.bool r,u8 n] 53));refine⟨_,zc c0 (i:=0) rfl,?_⟩
 cases r with
 | false =>
  exact brT ⟨rfl,hb0⟩
 | true =>
  refine brF ⟨_,zc c0 (i:=1) rfl,rb ?_,hb0⟩;show decide ((n.toNat:Int)<8)=decide (n.toNat<8);rw [QB];omega
theorem zkw {g locs after:Nat} {x:InsD} {w:Wd} (h:zI w ⟨g,0,none⟩ (spC x locs after)) :
  Calls PG 143 #[At0 g] w fun e w'=>e = .returned (.bool (zeJ x))/\w=w':=by
 refine zF 64 [At0 g] Tryz.func143 ?_;refine⟨_,zc h (i:=0) rfl,biE (fun h1=>?_) fun h1=>?_⟩
 ·have h1:x.op=1:=dT ((u8d x.op 1).symm.trans h1);have e:zeJ x=(decide (x.mode=0)||decide (x.mode=1)):=by unfold zeJ;rw [Gi h1]
  rw [e,<- u8d,<- u8d];refine⟨_,zc h (i:=8) rfl,biE (fun h2=>?_) fun h2=>?_⟩
  ·exact⟨rb (by have h2:decide ((x.mode.toNat:Int)=((0:UInt8).toNat:Int))=true:=h2;rw [h2];rfl),rfl⟩
  ·exact⟨_,zc h (i:=8) rfl,rb (by have h2:decide ((x.mode.toNat:Int)=((0:UInt8).toNat:Int))=false:=h2;rw [h2];rfl),rfl⟩
 have h1:¬ x.op=1:=dF ((u8d x.op 1).symm.trans h1);refine biE (fun h2=>?_) fun h2=>?_
 ·have h2:x.op=2:=dT ((u8d x.op 2).symm.trans h2);have e:zeJ x=(decide (x.mode=0)||decide (x.mode=2)):=by unfold zeJ;rw [Gh h1,Gi h2]
  rw [e,<- u8d,<- u8d];refine⟨_,zc h (i:=8) rfl,biE (fun h2=>?_) fun h2=>?_⟩
  ·exact⟨rb (by have h2:decide ((x.mode.toNat:Int)=((0:UInt8).toNat:Int))=true:=h2;rw [h2];rfl),rfl⟩
  ·exact⟨_,zc h (i:=8) rfl,rb (by have h2:decide ((x.mode.toNat:Int)=((0:UInt8).toNat:Int))=false:=h2;rw [h2];rfl),rfl⟩
 have h2:¬ x.op=2:=dF ((u8d x.op 2).symm.trans h2);refine biE (fun h3=>?_) fun h3=>?_
 ·have h3:x.op=7:=dT ((u8d x.op 7).symm.trans h3);have e:zeJ x=(decide (x.mode=3)||(decide (x.mode=4)||decide (x.mode=5))):=by unfold zeJ;rw [Gh h1,Gh h2,Gi h3]
  rw [e,<- u8d,<- u8d,<- u8d];refine⟨_,zc h (i:=8) rfl,biE (fun h4=>?_) fun h4=>?_⟩
  ·exact brT ⟨rb (by have h4:decide ((x.mode.toNat:Int)=((3:UInt8).toNat:Int))=true:=h4;rw [h4];rfl),rfl⟩
  have h4:decide ((x.mode.toNat:Int)=((3:UInt8).toNat:Int))=false:=h4;refine⟨_,zc h (i:=8) rfl,biE (fun h5=>?_) fun h5=>?_⟩
  ·exact⟨rb (by have h5:decide ((x.mode.toNat:Int)=((4:UInt8).toNat:Int))=true:=h5;rw [h4,h5];rfl),rfl⟩
  have h5:decide ((x.mode.toNat:Int)=((4:UInt8).toNat:Int))=false:=h5;exact⟨_,zc h (i:=8) rfl,rb (by rw [h4,h5];rfl),rfl⟩
 have h3:¬ x.op=7:=dF ((u8d x.op 7).symm.trans h3);exact⟨rb (by unfold zeJ;rw [Gh h1,Gh h2,Gh h3]),rfl⟩
theorem zoj {g locs after:Nat} {x:InsD} {w:Wd} (h:zI w ⟨g,0,none⟩ (spC x locs after)) :
  Calls PG 144 #[At0 g] w fun e w'=>e = .returned (.bool (fnL x))/\w=w':=by
 refine zF 56 [At0 g] Tryz.func144 ?_;refine⟨_,zc h (i:=0) rfl,biE (fun h1=>?_) fun h1=>?_⟩
 ·have h1:x.op=3:=dT ((u8d x.op 3).symm.trans h1);have e:fnL x=(decide (x.fn=1)||(decide (x.fn=2)||decide (x.fn=3))):=by unfold fnL;rw [Gi h1]
  rw [e,<- u8d,<- u8d,<- u8d];refine⟨_,zc h (i:=7) rfl,biE (fun h4=>?_) fun h4=>?_⟩
  ·exact brT ⟨rb (by have h4:decide ((x.fn.toNat:Int)=((1:UInt8).toNat:Int))=true:=h4;rw [h4];rfl),rfl⟩
  have h4:decide ((x.fn.toNat:Int)=((1:UInt8).toNat:Int))=false:=h4;refine⟨_,zc h (i:=7) rfl,biE (fun h5=>?_) fun h5=>?_⟩
  ·exact⟨rb (by have h5:decide ((x.fn.toNat:Int)=((2:UInt8).toNat:Int))=true:=h5;rw [h4,h5];rfl),rfl⟩
  have h5:decide ((x.fn.toNat:Int)=((2:UInt8).toNat:Int))=false:=h5;exact⟨_,zc h (i:=7) rfl,rb (by rw [h4,h5];rfl),rfl⟩
 have h1:¬ x.op=3:=dF ((u8d x.op 3).symm.trans h1);refine biE (fun h2=>?_) fun h2=>?_
 ·have h2:x.op=8:=dT ((u8d x.op 8).symm.trans h2);have e:fnL x=(decide (x.fn=4)||(decide (x.fn=5)||decide (x.fn=6))):=by unfold fnL;rw [Gh h1,Gi h2]
  rw [e,<- u8d,<- u8d,<- u8d];refine⟨_,zc h (i:=7) rfl,biE (fun h4=>?_) fun h4=>?_⟩
  ·exact brT ⟨rb (by have h4:decide ((x.fn.toNat:Int)=((4:UInt8).toNat:Int))=true:=h4;rw [h4];rfl),rfl⟩
  have h4:decide ((x.fn.toNat:Int)=((4:UInt8).toNat:Int))=false:=h4;refine⟨_,zc h (i:=7) rfl,biE (fun h5=>?_) fun h5=>?_⟩
  ·exact⟨rb (by have h5:decide ((x.fn.toNat:Int)=((5:UInt8).toNat:Int))=true:=h5;rw [h4,h5];rfl),rfl⟩
  have h5:decide ((x.fn.toNat:Int)=((5:UInt8).toNat:Int))=false:=h5;exact⟨_,zc h (i:=7) rfl,rb (by rw [h4,h5];rfl),rfl⟩
 have h2:¬ x.op=8:=dF ((u8d x.op 8).symm.trans h2);exact⟨rb (by unfold fnL;rw [Gh h1,Gh h2]),rfl⟩
set_option maxRecDepth 4000
def zqO:InsD:=⟨0,0,0,false,0,false,0,0,0,0⟩
def nd0 (x:InsD):InsD:={ zqO with op:=x.op }
def nd1 (x:InsD):InsD:={ nd0 x with dst:=if jG x.op 1 then x.dst else 0 }
def nd2 (x:InsD):InsD:={ nd1 x with loc:=if jG x.op 2 then x.loc else 0 }
def nd3 (x:InsD):InsD:={ nd2 x with ar:=jG x.op 4&&x.ar,an:=if jG x.op 4 then x.an else 0 }
def nd4 (x:InsD):InsD:={ nd3 x with br:=jG x.op 8&&x.br,bn:=if jG x.op 8 then x.bn else 0 }
def nd5 (x:InsD):InsD:={ nd4 x with fn:=if jG x.op 16 then x.fn else 0 }
def nd6 (x:InsD):InsD:={ nd5 x with mode:=if jG x.op 32 then x.mode else 0 }
def nd7 (x:InsD):InsD:={ nd6 x with skip:=if jG x.op 64 then x.skip else 0 }
theorem zpv {g locs after:Nat} {x:InsD} {w:Wd} (h:zI w ⟨g,0,none⟩ (spC x locs after)) (hg:g<w.heap.size) (hop:x.op.toNat<=8) (hG:GlobC w) :
  CB 137 #[At0 g] w (.agg (zA.enc (zgb x)).toArray):=by
 refine qk 67 [At0 g] (.s .p (.c .p (.c .p (.c .p (.c .p (.c .p (.c .p (.c .p (.c .p .p))))))))) Tryz.func137 ?_;obtain⟨r,hr⟩:=nm (w.heap.size);obtain⟨W0,hW0⟩:=nm (w.alloc (.cells (zA.enc zqO).toArray 55));have hb0:Bw w W0:=by rw [hW0];exact (zba _ _)
 have f0:W0.heap[r]?=some (.cells (zA.enc zqO).toArray 55 (0,0)):=by rw [hW0,hr];exact zy w _
 have s0:W0.heap.size=r+1:=by rw [hW0,wz,hr]
 let Good:InsD->Wd->Prop:=fun y X=>Bw w X/\X.heap[r]?=some (.cells (zA.enc zqO).toArray 55 (0,0))/\X.heap[r+1]?=some (.cells (zA.enc y).toArray 55 (0,0))
 have good:∀ y X,Good y X->zI X ⟨g,0,none⟩ (spC x locs after)/\GlobC X/\g<X.heap.size:=fun y X ⟨hb,_,_⟩=>⟨zS hb hg h,hG.below hb,by have:=hb.size;omega⟩;have turn:∀ y z X Y,Good y X->X.grownBy Y (some (r+1))->Y.heap[r+1]?=some (.cells (zA.enc z).toArray 55 (0,0))->Good z Y:=fun y z X Y ⟨hb,h1,h2⟩ hg' h3 =>
  ⟨hb.grown hg' hb.size (fun k e=>by simp only [KW] at e;omega),(hg'.block _ (hlt h1) (fun e=>by simp only [KW] at e;omega)).trans h1,h3⟩
 have start:∀ Y,Bw W0 Y->Y.heap[W0.heap.size]?=some (.cells (Value.agg (zA.enc (nd0 x)).toArray).cells 55 (0,0))->Good (nd0 x) Y:=fun Y hY fY =>
  ⟨(zst hb0 hY),zb hY f0,by rw [<- s0];exact fY⟩
 have h0:zI W0 ⟨g,0,none⟩ (spC x locs after):=zS hb0 hg h;have p2:some (Value.pointer (some ⟨w.heap.size,0,none⟩))=some (At0 r):=by rw [hr]
 have p3:some (Value.pointer (some ⟨W0.heap.size,0,none⟩))=some (At0 (r+1)):=by rw [s0]
 refine⟨Unit,fun _=>⟨[(0,At0 g),(2,At0 r),(3,At0 (r+1))],[]⟩,fun _ X=>Good (nd0 x) X,?_,?_⟩
 ·subst hW0;exact⟨_,zc h0 (i:=0) rfl,zA.enc (nd0 x),rfl,zo (v := .agg (zA.enc (nd0 x)).toArray) k55 rfl rfl rfl fun Y hbY fY sY=>⟨(),⟨.cons rfl (.cons p2 (.cons p3 .nil)),rfl⟩,start Y hbY fY⟩⟩
 clear start h0 f0 hb0 p2 p3 s0;rintro _ Y hY;refine⟨Unit,fun _=>⟨[(0,At0 g),(2,At0 r),(3,At0 (r+1))],[]⟩,fun _ X=>Good (nd1 x) X,?_,?_⟩
 ·obtain⟨hc,hGY,hgY⟩:=good _ Y hY;refine cmo (zeN 1 hc hop hGY) ?_;rintro e _ ⟨rfl,rfl⟩;refine biE (fun hh=>?_) fun hh=>?_
  ·have hh:jG x.op 1=true:=hh;have e:nd1 x={ nd0 x with dst:=x.dst }:=by unfold nd1;rw [Gi hh]
   exact⟨_,zc hc (i:=1) rfl,ja k5 rfl (hY.2.2) (o:=1) (by show 1<10;omega) (v:=u8 x.dst) rfl rfl fun Z fZ gZ sZ=>⟨(),(cvE rfl rfl),turn _ _ Y Z hY gZ (by rw [e];exact fZ)⟩⟩
  ·have hh:jG x.op 1=false:=hh;have e:nd1 x=nd0 x:=by unfold nd1;rw [Gh (by rw [hh];decide)];rfl
   exact⟨(),(cvE rfl rfl),by rw [e];exact hY⟩
 clear hY Y;rintro _ Y hY;refine⟨Unit,fun _=>⟨[(0,At0 g),(2,At0 r),(3,At0 (r+1))],[]⟩,fun _ X=>Good (nd2 x) X,?_,?_⟩
 ·obtain⟨hc,hGY,hgY⟩:=good _ Y hY;refine cmo (zeN 2 hc hop hGY) ?_;rintro e _ ⟨rfl,rfl⟩;refine biE (fun hh=>?_) fun hh=>?_
  ·have hh:jG x.op 2=true:=hh;have e:nd2 x={ nd1 x with loc:=x.loc }:=by unfold nd2;rw [Gi hh]
   exact⟨_,zc hc (i:=2) rfl,ja k5 rfl (hY.2.2) (o:=2) (by show 2<10;omega) (v:=u8 x.loc) rfl rfl fun Z fZ gZ sZ=>⟨(),(cvE rfl rfl),turn _ _ Y Z hY gZ (by rw [e];exact fZ)⟩⟩
  ·have hh:jG x.op 2=false:=hh;have e:nd2 x=nd1 x:=by unfold nd2;rw [Gh (by rw [hh];decide)];rfl
   exact⟨(),(cvE rfl rfl),by rw [e];exact hY⟩
 clear hY Y;rintro _ Y hY;refine⟨Unit,fun _=>⟨[(0,At0 g),(2,At0 r),(3,At0 (r+1))],[]⟩,fun _ X=>Good (nd3 x) X,?_,?_⟩
 ·obtain⟨hc,hGY,hgY⟩:=good _ Y hY;refine cmo (zeN 4 hc hop hGY) ?_;rintro e _ ⟨rfl,rfl⟩;refine biE (fun hh=>?_) fun hh=>?_
  ·have hh:jG x.op 4=true:=hh;have e:nd3 x={ nd2 x with ar:=x.ar,an:=x.an }:=by unfold nd3;rw [hh,Ut,Gi rfl]
   exact⟨[.bool x.ar,u8 x.an],rfl,zP (n:=3) (m:=2) hc,hgY,jZ k53 hY.2.2 (o:=3) (v := .agg #[.bool x.ar,u8 x.an]) rfl (by show 3+2<=10;omega) rfl fun Z fZ gZ sZ=>⟨(),(cvE rfl rfl),turn _ _ Y Z hY gZ (by rw [e];exact fZ)⟩⟩
  ·have hh:jG x.op 4=false:=hh;have e:nd3 x=nd2 x:=by unfold nd3;rw [hh,Ue,Gh (by decide)];rfl
   exact⟨(),(cvE rfl rfl),by rw [e];exact hY⟩
 clear hY Y;rintro _ Y hY;refine⟨Unit,fun _=>⟨[(0,At0 g),(2,At0 r),(3,At0 (r+1))],[]⟩,fun _ X=>Good (nd4 x) X,?_,?_⟩
 ·obtain⟨hc,hGY,hgY⟩:=good _ Y hY;refine cmo (zeN 8 hc hop hGY) ?_;rintro e _ ⟨rfl,rfl⟩;refine biE (fun hh=>?_) fun hh=>?_
  ·have hh:jG x.op 8=true:=hh;have e:nd4 x={ nd3 x with br:=x.br,bn:=x.bn }:=by unfold nd4;rw [hh,Ut,Gi rfl]
   exact⟨[.bool x.br,u8 x.bn],rfl,zP (n:=5) (m:=2) hc,hgY,jZ k53 hY.2.2 (o:=5) (v := .agg #[.bool x.br,u8 x.bn]) rfl (by show 5+2<=10;omega) rfl fun Z fZ gZ sZ=>⟨(),(cvE rfl rfl),turn _ _ Y Z hY gZ (by rw [e];exact fZ)⟩⟩
  ·have hh:jG x.op 8=false:=hh;have e:nd4 x=nd3 x:=by unfold nd4;rw [hh,Ue,Gh (by decide)];rfl
   exact⟨(),(cvE rfl rfl),by rw [e];exact hY⟩
 clear hY Y;rintro _ Y hY;refine⟨Unit,fun _=>⟨[(0,At0 g),(2,At0 r),(3,At0 (r+1))],[]⟩,fun _ X=>Good (nd5 x) X,?_,?_⟩
 ·obtain⟨hc,hGY,hgY⟩:=good _ Y hY;refine cmo (zeN 16 hc hop hGY) ?_;rintro e _ ⟨rfl,rfl⟩;refine biE (fun hh=>?_) fun hh=>?_
  ·have hh:jG x.op 16=true:=hh;have e:nd5 x={ nd4 x with fn:=x.fn }:=by unfold nd5;rw [Gi hh]
   exact⟨_,zc hc (i:=7) rfl,ja k5 rfl (hY.2.2) (o:=7) (by show 7<10;omega) (v:=u8 x.fn) rfl rfl fun Z fZ gZ sZ=>⟨(),(cvE rfl rfl),turn _ _ Y Z hY gZ (by rw [e];exact fZ)⟩⟩
  ·have hh:jG x.op 16=false:=hh;have e:nd5 x=nd4 x:=by unfold nd5;rw [Gh (by rw [hh];decide)];rfl
   exact⟨(),(cvE rfl rfl),by rw [e];exact hY⟩
 clear hY Y;rintro _ Y hY;refine⟨Unit,fun _=>⟨[(0,At0 g),(2,At0 r),(3,At0 (r+1))],[]⟩,fun _ X=>Good (nd6 x) X,?_,?_⟩
 ·obtain⟨hc,hGY,hgY⟩:=good _ Y hY;refine cmo (zeN 32 hc hop hGY) ?_;rintro e _ ⟨rfl,rfl⟩;refine biE (fun hh=>?_) fun hh=>?_
  ·have hh:jG x.op 32=true:=hh;have e:nd6 x={ nd5 x with mode:=x.mode }:=by unfold nd6;rw [Gi hh]
   exact⟨_,zc hc (i:=8) rfl,ja k5 rfl (hY.2.2) (o:=8) (by show 8<10;omega) (v:=u8 x.mode) rfl rfl fun Z fZ gZ sZ=>⟨(),(cvE rfl rfl),turn _ _ Y Z hY gZ (by rw [e];exact fZ)⟩⟩
  ·have hh:jG x.op 32=false:=hh;have e:nd6 x=nd5 x:=by unfold nd6;rw [Gh (by rw [hh];decide)];rfl
   exact⟨(),(cvE rfl rfl),by rw [e];exact hY⟩
 clear hY Y;rintro _ Y hY;refine⟨Unit,fun _=>⟨[(0,At0 g),(2,At0 r),(3,At0 (r+1))],[]⟩,fun _ X=>Good (nd7 x) X,?_,?_⟩
 ·obtain⟨hc,hGY,hgY⟩:=good _ Y hY;refine cmo (zeN 64 hc hop hGY) ?_;rintro e _ ⟨rfl,rfl⟩;refine biE (fun hh=>?_) fun hh=>?_
  ·have hh:jG x.op 64=true:=hh;have e:nd7 x={ nd6 x with skip:=x.skip }:=by unfold nd7;rw [Gi hh]
   exact⟨_,zc hc (i:=9) rfl,ja k5 rfl (hY.2.2) (o:=9) (by show 9<10;omega) (v:=u8 x.skip) rfl rfl fun Z fZ gZ sZ=>⟨(),(cvE rfl rfl),turn _ _ Y Z hY gZ (by rw [e];exact fZ)⟩⟩
  ·have hh:jG x.op 64=false:=hh;have e:nd7 x=nd6 x:=by unfold nd7;rw [Gh (by rw [hh];decide)];rfl
   exact⟨(),(cvE rfl rfl),by rw [e];exact hY⟩
 clear hY Y;rintro _ Y hY;exact⟨_,rfl,za hY.2.2,hlt hY.2.2,zt (v := .agg (zA.enc (nd7 x)).toArray) k55 hY.2.1 rfl rfl rfl ⟨_,rfl,za (zn hY.2.1),rfl,zl hY.1 (by omega) _⟩⟩
end Go.Proofs.YtkpaomeeknegpaaGreatDoor
namespace Go.Vc
open Go.RowKit
def qQ (cs:List Value) (o n:Nat):List Value:=(cs.drop o).take n
theorem zfz (cs:List Value) (o n m:Nat):qQ cs o (n+m)=qQ cs o n++qQ cs (o+n) m:=by
 unfold qQ;rw [List.take_add,Uf]
theorem zdQ {cs:List Value} {o n:Nat} (h:o+n<=cs.length):(qQ cs o n).length=n:=by
 unfold qQ;rw [Qr,Qq];omega
def vOf (g:Bool) (a:List Value):Value:=match g with | true => .agg a.toArray | false=>a.headD undef
structure TyEq (P:Program) (T:TypeId) (g:Bool) (n k:Nat) (G:List Value->Prop):Prop where
 ag:∀ w,(isAgg T).run P w = .ok g w
 info:∃ i,P.info? T=some i
 cl:P.cellsOf T=n
 one:g=false->n=1
 eq:∀ d w a b,a.length=n->b.length=n->G a->G b->∃ r:Bool,(Op.equalIn (d+k) T (vOf g a) (vOf g b)).run P w = .ok r w/\(r=true↔a=b)
section
variable {P:Program}
theorem TyEq.up {T:TypeId} {g:Bool} {n k:Nat} {G:List Value->Prop} (h:TyEq P T g n k G) (m:Nat):TyEq P T g n (m+k) G :=
 ⟨h.ag,h.info,h.cl,h.one,fun d w a b h1 h2 h3 h4=>by have:=h.eq (d+m) w a b h1 h2 h3 h4;rwa [Uz] at this⟩
theorem TyEq.part {T:TypeId} {g:Bool} {n k:Nat} {G:List Value->Prop} (h:TyEq P T g n k G) (xs:Array Value) (o:Nat) (hs:o+n<=xs.size) (w:Wd):(Go.part T xs o).run P w = .ok (vOf g (qQ xs.toList o n)) w:=by
 obtain⟨i,hi⟩:=h.info;have hsz:=run_sizeOf w hi;rw [h.cl] at hsz;simp only [Go.part,UO,h.ag,KX]
 cases g with
 | true =>
  simp only [Gg,UO,hsz,KX,UP,vOf];congr 2;apply Qb.1;simp [qQ,JS,List.extract_eq_take_drop]
 | false =>
  have h1:=h.one rfl;subst h1;have ho:o<xs.size:=by omega
  simp only [Kr,Ge,Jn ho,UP,vOf];congr 1;unfold qQ;rw [Jp (by simpa using ho)];simp
inductive Tile (P:Program) (k:Nat):List Field->Nat->Nat->(List Value->Prop)->Prop
 | nil {s:Nat}:Tile P k [] s s (fun _=>True)
 | cons {f : Field} {fs : List Field} {s e n : Nat} {g : Bool} {G G' : List Value → Prop} (hn : f.name ≠ "_") (ho : f.offset = s) (ht : TyEq P f.type g n k G) (hr : Tile P k fs (s + n) e G') : Tile P k (f :: fs) s e (fun cs => G (cs.take n) ∧ G' (cs.drop n))
theorem Tile.le {k:Nat} {fs:List Field} {s e:Nat} {G:List Value->Prop} (h:Tile P k fs s e G):s<=e:=by
 induction h with
 | nil=>exact UR _
 | cons _ _ _ _ ih=>omega
theorem Tile.eq {k:Nat} {fs:List Field} {s e:Nat} {G:List Value->Prop} (h:Tile P k fs s e G):∀ (d:Nat) (xs ys:Array Value) (w:Wd),e<=xs.size->e<=ys.size->G (qQ xs.toList s (e-s))->G (qQ ys.toList s (e-s)) ->
  ∃ r:Bool,(Op.eqFields (d+k) xs ys fs).run P w = .ok r w/\(r=true↔qQ xs.toList s (e-s)=qQ ys.toList s (e-s)):=by
 induction h with
 | nil=>intro d xs ys w _ _ _ _;exact⟨true,rfl,by simp [qQ]⟩
 | @cons f fs s e n g G G' hn ho ht hr ih =>
  intro d xs ys w hx hy hgx hgy;have hle:=hr.le;have e1:e-s=n+(e-(s+n)):=by omega
  rw [e1,zfz] at hgx hgy;rw [e1,zfz,zfz];have lx:(qQ xs.toList s n).length=n:=zdQ (by simp;omega);have ly:(qQ ys.toList s n).length=n:=zdQ (by simp;omega);obtain⟨gx1,gx2⟩:=hgx;obtain⟨gy1,gy2⟩:=hgy;rw [Jf (by omega),JF (by omega)] at gx1 gy1;rw [List.drop_append_of_le_length (by omega),JB (by omega),QO] at gx2 gy2;obtain⟨r1,h1,h2⟩:=ht.eq d w _ _ lx ly gx1 gy1;obtain⟨r2,h3,h4⟩:=ih d xs ys w hx hy gx2 gy2;simp only [Op.eqFields,hn,ne_eq,not_false_eq_true,Gg,UO,ho,ht.part xs s (by omega) w,ht.part ys s (by omega) w,KX,h1];have hap:(qQ xs.toList s n++qQ xs.toList (s+n) (e-(s+n))=qQ ys.toList s n++qQ ys.toList (s+n) (e-(s+n)))↔(qQ xs.toList s n=qQ ys.toList s n/\qQ xs.toList (s+n) (e-(s+n))=qQ ys.toList (s+n) (e-(s+n))) :=
   ⟨fun h=>List.append_inj h (by rw [lx,ly]),fun h=>by rw [h.1,h.2]⟩
  rw [hap,<- h2,<- h4]
  cases r1 with
  | true=>exact⟨r2,by simpa using h3,by simp⟩
  | false=>exact⟨false,by simp,by simp⟩
theorem TyEq.struct {T:TypeId} {k n:Nat} {G:List Value->Prop} (hu:P.underlying T=some (.struct (P.fieldsOf T))) (hp:P.stoodInHeld T=false) (hag:∀ w,(isAgg T).run P w = .ok true w) (hi:∃ i,P.info? T=some i) (hc:P.cellsOf T=n)
  (ht:Tile P k (P.fieldsOf T).toList 0 n G):TyEq P T true n (k+1) G :=
 ⟨hag,hi,hc,fun h=>(by cases h),fun d w a b ha hb ga gb=>by
  have e:∀ l:List Value,l.length=n->qQ l.toArray.toList 0 (n-0)=l:=fun l hl=>by
   unfold qQ;rw [Uh,UL];exact JF (by show l.length<=n;omega)
  obtain⟨r,h1,h2⟩:=ht.eq d a.toArray b.toArray w (by simp;omega) (by simp;omega) (by rw [e a ha];exact ga) (by rw [e b hb];exact gb);rw [e a ha,e b hb] at h2;refine⟨r,?_,h2⟩;have:=run_equalIn_struct (P:=P) w (d+k) T a.toArray b.toArray hu hp;rw [<- Uz];exact this.trans h1⟩
theorem zou {n m:Nat} (hn:0<n) {a b:List Value} (ha:a.length=m*n) (hb:b.length=m*n) (h:∀ i,i<m->qQ a (i*n) n=qQ b (i*n) n):a=b:=by
 apply KM;intro j;by_cases hj:j<m*n
 ·have hd:j/n<m:=Nat.div_lt_of_lt_mul (by rw [UJ];exact hj);have h1:=Gd (fun l=>l[j%n]?) (h _ hd);simp only [qQ,Kv,Gi (UZ j hn),Ku] at h1;rw [UJ,QU] at h1;exact h1
 ·rw [JJ (by omega),JJ (by omega)]
theorem TyEq.array {T e:TypeId} {g:Bool} {n k m:Nat} {G:List Value->Prop} (hn:0<n) (hu:P.underlying T=some (.array m e)) (hag:∀ w,(isAgg T).run P w = .ok true w) (hi:∃ i,P.info? T=some i) (hc:P.cellsOf T=m*n) (ht:TyEq P e g n k G) :
  TyEq P T true (m*n) (k+1) (fun cs=>∀ i,i<m->G (qQ cs (i*n) n)) :=
 ⟨hag,hi,hc,fun h=>(by cases h),fun d w a b ha hb ga gb=>by
  obtain⟨ie,hie⟩:=ht.info;have key:∀ is:List Nat,(∀ i∈is,i<m)->∃ r:Bool,(Op.eqItems (d+k) e n a.toArray b.toArray is).run P w = .ok r w/\(r=true↔∀ i∈is,qQ a (i*n) n=qQ b (i*n) n):=by
   intro is
   induction is with
   | nil=>intro _;exact⟨true,rfl,by simp⟩
   | cons i is ih =>
    intro him;have hi:=him i Kx;have hle:i*n+n<=m*n:=(by rw [<- Nat.succ_mul];exact Nat.mul_le_mul_right _ hi);obtain⟨r2,h3,h4⟩:=ih fun j hj=>him j (JW _ hj);obtain⟨r1,h1,h2⟩:=ht.eq d w (qQ a (i*n) n) (qQ b (i*n) n) (zdQ (by omega)) (zdQ (by omega)) (ga i hi) (gb i hi);have p1:=ht.part a.toArray (i*n) (by simp;omega) w;have p2:=ht.part b.toArray (i*n) (by simp;omega) w;have ea:a.toArray.toList=a:=rfl;have eb:b.toArray.toList=b:=rfl;rw [ea] at p1;rw [eb] at p2;simp only [Op.eqItems,UO,p1,p2,KX,h1]
    cases r1 with
    | true =>
     refine⟨r2,by simpa using h3,?_⟩;rw [h4];have:=h2.1 rfl;simp [this]
    | false =>
     refine⟨false,by simp,?_⟩;simp only [Kr,false_iff];intro h;have:=h2.2 (h i Kx)
     cases this
  obtain⟨r,h1,h2⟩:=key (List.range m) fun i hi=>Uj.1 hi;refine⟨r,?_,?_⟩
  ·have:=run_equalIn_array (P:=P) w (d+k) a.toArray b.toArray hu hie;rw [ht.cl] at this;rw [<- Uz];exact this.trans h1
  ·rw [h2];exact⟨fun h=>zou hn ha hb fun i hi=>h i (Uj.2 hi),fun h i _=>by rw [h]⟩⟩
theorem TyEq.int {T:TypeId} {q:IntKind} (hu:P.underlying T=some (.int q)) (hag:∀ w,(isAgg T).run P w = .ok false w) (hi:∃ i,P.info? T=some i) (hc:P.cellsOf T=1):TyEq P T false 1 1 (fun cs=>∃ x,cs=[.int q x]) :=
 ⟨hag,hi,hc,fun _=>rfl,fun d w a b _ _ ⟨x,hx⟩ ⟨y,hy⟩=>by
  subst hx hy;refine⟨decide (x=y),?_,by simp⟩;simp only [vOf,List.headD_cons,Op.equalIn,UO,Uo hu,KX,Gg,UP];congr 1⟩
theorem TyEq.bool {T:TypeId} (hu:P.underlying T=some .bool) (hag:∀ w,(isAgg T).run P w = .ok false w) (hi:∃ i,P.info? T=some i) (hc:P.cellsOf T=1):TyEq P T false 1 1 (fun cs=>∃ x,cs=[.bool x]) :=
 ⟨hag,hi,hc,fun _=>rfl,fun d w a b _ _ ⟨x,hx⟩ ⟨y,hy⟩=>by
  subst hx hy;refine⟨x == y,?_,by simp⟩;simp only [vOf,List.headD_cons,Op.equalIn,UO,Uo hu,KX,UP]⟩
end
end Go.Vc
namespace Go.Proofs.YtkpaomeeknegpaaGreatDoor
open Go.Vc Go.RowKit Go.Sei
def zuW (q:IntKind) (cs:List Value):Prop:=∃ x,cs=[.int q x]
def zus (cs:List Value):Prop:=∃ x,cs=[.bool x]
theorem tU8:TyEq PG 5 false 1 1 (zuW .u8) := .int Tryz.underlying5 (fun w=>Tryz.isAgg5 w) (jN (by kernel_rfl) (by kernel_rfl)).1 (by kernel_rfl)
theorem zt7:TyEq PG 4 false 1 1 zus := .bool Tryz.underlying4 (fun w=>Tryz.isAgg4 w) (jN (by kernel_rfl) (by kernel_rfl)).1 (by kernel_rfl)
theorem uf {T:TypeId} {F:Array Field} (h:Tryz.prog.underlying T=some (.struct F)):Tryz.prog.underlying T=some (.struct (Tryz.prog.fieldsOf T))/\Tryz.prog.fieldsOf T=F:=by
 have:Tryz.prog.fieldsOf T=F:=by unfold Program.fieldsOf;rw [h]
 exact⟨by rw [this];exact h,this⟩
open Classical in
noncomputable def cdec (p:Prop):Bool:=decide p
theorem zr8 {p:Prop} [h:Decidable p]:cdec p=decide p:=by unfold cdec;congr
theorem zeY {p q:Prop} [Decidable q] (h:p↔q):cdec p=decide q:=by
 have:p=q:=propext h;subst this;exact zr8
section
variable {T:TypeId} {n k:Nat} {G:List Value->Prop} (h:TyEq PG T true n k G) (d:Nat) (hd:d+k=10000) (hg:Tryz.prog.eqGuardType Tryz.prog.depth T=false) {a b:List Value} (ha:a.length=n) (hb:b.length=n) (ga:G a) (gb:G b)
include h hd hg ha hb ga gb
omit hg in
theorem equal_ty (w:Wd):(Op.equal T (.agg a.toArray) (.agg b.toArray)).run PG w = .ok (cdec (a=b)) w:=by
 obtain⟨r,h1,h2⟩:=h.eq d w a b ha hb ga gb;have e:r=cdec (a=b):=by
  unfold cdec
  cases r with
  | true=>simp [h2.1 rfl]
  | false =>
   have:¬ a=b:=fun e=>by have:=h2.2 e;cases this
   simp [this]
 rw [hd] at h1;rw [<- e];exact h1
theorem zta (x y:Operand) (w:Wd):(do eqGuard .neq T x y (.agg a.toArray) (.agg b.toArray);binOp .neq T (.agg a.toArray) (.agg b.toArray)).run PG w = .ok (.bool (!cdec (a=b))) w:=by
 have he:=equal_ty h d hd ha hb ga gb w;have h1:(eqGuard .neq T x y (.agg a.toArray) (.agg b.toArray)).run PG w = .ok () w:=by
  simp only [eqGuard,Ur,Kr,Ge,UO,run_program,KX,hg,Bool.not_false,Gg,UP]
 rw [UO,h1];simp only [KX,binOp,UO,he,UP]
theorem zl8 (x y:Operand) (w:Wd):(do eqGuard .eql T x y (.agg a.toArray) (.agg b.toArray);binOp .eql T (.agg a.toArray) (.agg b.toArray)).run PG w = .ok (.bool (cdec (a=b))) w:=by
 have he:=equal_ty h d hd ha hb ga gb w;have h1:(eqGuard .eql T x y (.agg a.toArray) (.agg b.toArray)).run PG w = .ok () w:=by
  simp only [eqGuard,Ur,Kr,Ge,UO,run_program,KX,hg,Bool.not_false,Gg,UP]
 rw [UO,h1];simp only [KX,binOp,UO,he,UP]
end
theorem zuz:∃ G,TyEq PG 53 true 2 2 G/\∀ r n,G [.bool r,u8 n]:=by
 refine⟨_,.struct (uf Tryz.underlying53).1 (by kernel_rfl) (fun w=>Tryz.isAgg53 w) (jN (by kernel_rfl) (by kernel_rfl)).1 (by kernel_rfl)
  (by rw [(uf Tryz.underlying53).2];exact .cons (by decide) rfl zt7 (.cons (by decide) rfl tU8 .nil)),fun r n=>?_⟩
 exact⟨⟨_,rfl⟩,⟨_,rfl⟩,trivial⟩
theorem zux:∃ G,TyEq PG 55 true 10 3 G/\∀ x,G (zA.enc x):=by
 obtain⟨G,h1,h2⟩:=zuz;refine⟨_,.struct (uf Tryz.underlying55).1 (by kernel_rfl) (fun w=>Tryz.isAgg55 w) (jN (by kernel_rfl) (by kernel_rfl)).1 (by kernel_rfl)
  (by rw [(uf Tryz.underlying55).2];exact .cons (by decide) rfl (tU8.up 1) (.cons (by decide) rfl (tU8.up 1) (.cons (by decide) rfl (tU8.up 1) (.cons (by decide) rfl h1 (.cons (by decide) rfl h1 (.cons (by decide) rfl (tU8.up 1) (.cons (by decide) rfl (tU8.up 1) (.cons (by decide) rfl (tU8.up 1) .nil)))))))),fun x=>?_⟩
 exact⟨⟨_,rfl⟩,⟨_,rfl⟩,⟨_,rfl⟩,h2 _ _,h2 _ _,⟨_,rfl⟩,⟨_,rfl⟩,⟨_,rfl⟩,trivial⟩
theorem zbW {a b:UInt8} (h:u8 a=u8 b):a=b:=by
 unfold u8 at h;simp only [Value.int.injEq,true_and] at h;exact qq.1 h
theorem zrr {a b:InsD}:zA.enc a=zA.enc b↔a=b:=by
 constructor
 ·intro h;obtain⟨a0,a1,a2,a3,a4,a5,a6,a7,a8,a9⟩:=a;obtain⟨b0,b1,b2,b3,b4,b5,b6,b7,b8,b9⟩:=b;simp only [zA,QG,Gc,Value.bool.injEq] at h;obtain⟨h0,h1,h2,rfl,h4,rfl,h6,h7,h8,h9⟩:=h;rw [zbW h0,zbW h1,zbW h2,zbW h4,zbW h6,zbW h7,zbW h8,zbW h9]
 ·exact fun h=>by rw [h]
theorem zrP (x y:Operand) (a b:InsD) (w:Wd):(do eqGuard .eql 55 x y (.agg (zA.enc a).toArray) (.agg (zA.enc b).toArray);binOp .eql 55 (.agg (zA.enc a).toArray) (.agg (zA.enc b).toArray)).run PG w = .ok (.bool (decide (a=b))) w:=by
 obtain⟨G,h,hG⟩:=zux;rw [zl8 h 9997 rfl (by kernel_rfl) rfl rfl (hG a) (hG b) x y w,zeY zrr]
structure SpV (X:Wd) (g bx:Nat) (x:InsD) (locs after:Nat):Prop where
 c:X.heap[g]?=some (.cells (spC x locs after).toArray 172 (0,0))
 b:X.heap[bx]?=some (.cells #[At0 g] 220 (0,0))
 G:GlobC X
theorem SpV.below {X Y:Wd} {g bx locs after:Nat} {x:InsD} (h:SpV X g bx x locs after) (hb:Bw X Y):SpV Y g bx x locs after:=⟨zb hb h.c,zb hb h.b,h.G.below hb⟩
theorem SpV.cells {X:Wd} {g bx locs after:Nat} {x:InsD} (h:SpV X g bx x locs after):zI X ⟨g,0,none⟩ (spC x locs after):=za h.c
section
variable {g bx locs after:Nat} {x:InsD} {w:Wd}
theorem zr4 (h:SpV w g bx x locs after):CB 135 #[At0 bx] w (.bool (decide (1<=x.op.toNat)&&decide (x.op.toNat<=8))):=by
 refine zF 16 [At0 bx] Tryz.func135 ?_;refine⟨_,zc (za h.b) (i:=0) rfl,_,zc h.cells (i:=0) rfl,biE (fun h1=>?_) fun h1=>?_⟩
 ·have h1:(1:Int)<=x.op.toNat:=dT h1;refine⟨_,zc (za h.b) (i:=0) rfl,_,zc h.cells (i:=0) rfl,rb ?_,UW _ _⟩;rw [Un (p:=1<=x.op.toNat) (by omega),Ut,QB];show (x.op.toNat:Int)<=8↔_;omega
 ·have h1:¬ (1:Int)<=x.op.toNat:=dF h1;refine⟨rb ?_,UW _ _⟩;rw [Uc (p:=1<=x.op.toNat) (by omega)];rfl
theorem zr3 (h:SpV w g bx x locs after) (hop:x.op.toNat<=8):CB 136 #[At0 bx] w (.bool (decide (x=zgb x))):=by
 refine zF 9 [At0 bx] Tryz.func136 ?_;have hd:SpV w.drew g bx x locs after:=h.below (UW _ w).drew;refine DrawE.ord [] [0,1,2,3,4,5,6,7] (by kernel_rfl) ⟨_,zc (za hd.b) (i:=0) rfl,zA.enc x,rfl,zP (n:=0) (m:=10) hd.cells,hlt hd.c,_,zc (za hd.b) (i:=0) rfl,cmo (zpv hd.cells (hlt hd.c) hop hd.G) ?_⟩;rintro e V ⟨rfl,hb⟩;exact⟨hb,_,fun w=>zrP _ _ x (zgb x) w,rfl,(UW _ w).drew.trans hb⟩
theorem zr2 (h:SpV w g bx x locs after):CB 138 #[At0 bx] w (.bool (decide (x.dst.toNat<8))):=by
 refine zF 8 [At0 bx] Tryz.func138 ?_;refine⟨_,zc (za h.b) (i:=0) rfl,_,zc h.cells (i:=1) rfl,rb ?_,UW _ _⟩;show decide ((x.dst.toNat:Int)<8)=_;rw [QB];omega
theorem zr1 (h:SpV w g bx x locs after) (hop:x.op.toNat<=8):CB 139 #[At0 bx] w (.bool (!jG x.op 2||decide (x.loc.toNat<locs))):=by
 refine zF 18 [At0 bx] Tryz.func139 ?_;have hd:SpV w.drew g bx x locs after:=h.below (UW _ w).drew;refine DrawE.ord [] [0,1,2,3,4,5,6,7,8,9,10,11,12,13,14,15,16] (by kernel_rfl) ⟨_,zc (za hd.b) (i:=0) rfl,cmo (zeN 2 hd.cells hop hd.G) ?_⟩;rintro e _ ⟨rfl,rfl⟩;refine⟨UW _ _,biE (fun h1=>?_) fun h1=>?_⟩
 ·have h1:(!jG x.op 2)=true:=h1;exact⟨rb (by rw [h1];rfl),(UW _ w).drew⟩
 ·have h1:(!jG x.op 2)=false:=h1;refine⟨_,zc (za hd.b) (i:=0) rfl,_,zc hd.cells (i:=2) rfl,_,qS _,_,zc (za hd.b) (i:=0) rfl,_,zc hd.cells (i:=10) rfl,rb ?_,(UW _ w).drew⟩;rw [h1,Uq,QB];omega
theorem zr0 (h:SpV w g bx x locs after):CB 141 #[At0 bx] w (.bool (zjA x.ar x.an&&zjA x.br x.bn)):=by
 refine zF 16 [At0 bx] Tryz.func141 ?_;refine⟨_,zc (za h.b) (i:=0) rfl,[.bool x.ar,u8 x.an],rfl,zP (n:=3) (m:=2) h.cells,hlt h.c,cmo (zhH x.ar x.an w) ?_⟩;rintro e V ⟨rfl,hb⟩;have hV:=h.below hb;refine biE (fun h1=>?_) fun h1=>?_
 ·have h1:zjA x.ar x.an=true:=h1;refine⟨_,zc (za hV.b) (i:=0) rfl,[.bool x.br,u8 x.bn],rfl,zP (n:=5) (m:=2) hV.cells,hlt hV.c,cmo (zhH x.br x.bn V) ?_⟩;rintro e U ⟨rfl,hb2⟩;exact⟨rb (by rw [h1,Ut]),(zst hb hb2)⟩
 ·have h1:zjA x.ar x.an=false:=h1;exact⟨rb (by rw [h1,Ue]),hb⟩
theorem zrZ (h:SpV w g bx x locs after) (hop:x.op.toNat<=8):CB 145 #[At0 bx] w (.bool (!jG x.op 64||(decide (1<=x.skip.toNat)&&decide (x.skip.toNat<=after)))):=by
 refine zF 26 [At0 bx] Tryz.func145 ?_;have hd:SpV w.drew g bx x locs after:=h.below (UW _ w).drew;refine DrawE.ord [] [0,1,2,3,4,5,6,7,8,9,10,11,12,13,14,15,16,17,18,19,20,21,22,23,24] (by kernel_rfl) ⟨_,zc (za hd.b) (i:=0) rfl,cmo (zeN 64 hd.cells hop hd.G) ?_⟩;rintro e _ ⟨rfl,rfl⟩;refine⟨UW _ _,biE (fun h1=>?_) fun h1=>?_⟩
 ·have h1:(!jG x.op 64)=true:=h1;exact⟨rb (by rw [h1];rfl),(UW _ w).drew⟩
 ·have h1:(!jG x.op 64)=false:=h1;rw [h1,Uq];refine⟨_,zc (za hd.b) (i:=0) rfl,_,zc hd.cells (i:=9) rfl,biE (fun h2=>?_) fun h2=>?_⟩
  ·have h2:(1:Int)<=x.skip.toNat:=dT h2;refine⟨_,zc (za hd.b) (i:=0) rfl,_,zc hd.cells (i:=9) rfl,_,qS _,_,zc (za hd.b) (i:=0) rfl,_,zc hd.cells (i:=11) rfl,rb ?_,(UW _ w).drew⟩;rw [Un (p:=1<=x.skip.toNat) (by omega),Ut,QB];omega
  ·have h2:¬ (1:Int)<=x.skip.toNat:=dF h2;refine⟨rb ?_,(UW _ w).drew⟩;rw [Uc (p:=1<=x.skip.toNat) (by omega)];rfl
end
def zjr (g bx:Nat):List Value:=[.func (.func 135) #[] #[At0 bx],.func (.func 136) #[] #[At0 bx],.func (.func 138) #[] #[At0 bx],
 .func (.func 139) #[] #[At0 bx],.func (.func 141) #[] #[At0 bx],.func (.func 143) #[At0 g] #[],.func (.func 144) #[At0 g] #[],
 .func (.func 145) #[] #[At0 bx]]
theorem zrY {g:Nat} {w:Wd}:Calls PG 99 #[At0 g] w fun e w'=>e = .returned (.slice (some ⟨w.heap.size+1,0,none⟩) 8 8) /\
  w'.heap[w.heap.size]?=some (.cells #[At0 g] 220 (0,0))/\w'.heap[w.heap.size+1]?=some (.cells (zjr g w.heap.size).toArray 33 (0,0))/\w'.heap.size=w.heap.size+2/\Bw w w':=by
 refine zF 14 [At0 g] Tryz.func99 ?_;obtain⟨W,hW⟩:=nm (w.alloc (.cells #[At0 g] 220));have hb:W.heap[w.heap.size]?=some (.cells #[At0 g] 220 (0,0)):=by rw [hW];exact zy w _
 have hs:W.heap.size=w.heap.size+1:=by rw [hW,wz]
 have hbb:Bw w W:=by rw [hW];exact (zba w _)
 refine⟨_,zc (za (zy w _)) (i:=0) rfl,_,zc (za (zy w _)) (i:=0) rfl,⟨by decide,by decide,rfl⟩,zjr g w.heap.size,rfl,?_⟩;have hs1:=wz w (.cells #[At0 g] 220);refine⟨?_,?_,?_,?_,?_⟩
 ·show Ending.returned (.slice (some ⟨(w.alloc (.cells #[At0 g] 220)).heap.size,0,none⟩) 8 8)=_;rw [hs1]
 ·exact qJ _ (zy w _)
 ·rw [<- hs1];exact zy _ _
 ·rw [wz,wz]
 ·exact ((zba w _)).alloc (by simp) _
structure ThI (X:Wd) (L:Nat) (x:InsD) (locs after:Nat):Prop where
 c:X.heap[L]?=some (.cells (spC x locs after).toArray 172 (0,0))
 b:X.heap[L+1]?=some (.cells #[At0 L] 220 (0,0))
 s:X.heap[L+2]?=some (.cells (zjr L (L+1)).toArray 33 (0,0))
theorem ThI.below {X Y:Wd} {L:Nat} {x:InsD} {locs after:Nat} (h:ThI X L x locs after) (hb:Bw X Y):ThI Y L x locs after:=⟨zb hb h.c,zb hb h.b,zb hb h.s⟩
def zrs:InsD:=⟨0,0,0,false,0,false,0,0,0,0⟩
theorem zld {l:List Bool}:∀ {n:Nat},(∀ j,j<n->l[j]?=some true)->n=l.length->l.all id=true:=by
 intro n h e;rw [Qg];intro b hb;obtain⟨j,hj,rfl⟩:=Kg hb;have:=h j (by omega);rw [gE hj] at this;exact Ua this
theorem zqx {l:List Bool} {j:Nat} (h:l[j]?=some false):l.all id=false:=by
 rw [KJ];obtain⟨hj,e⟩:=Jr.1 h;exact⟨l[j],gM _,by rw [e];decide⟩
theorem zdl {l:List InsD} {k locs:Nat} (hkl:k<l.length) {i:Nat} (h:(qT l[k] locs (l.length-1-k))[i]?=some false) {w X:Wd} (hb:Bw w X) :
  Ending.returned (.bool false) = .returned (.bool (qy l locs))/\Bw w X:=by
 refine⟨rb ?_,hb⟩;symm;unfold qy;rw [Bool.and_eq_false_iff];refine .inr ?_;rw [KJ];refine⟨k,Uj.2 hkl,?_⟩;rw [gE hkl];show ¬ zhU l[k] locs (l.length-1-k)=true;unfold zhU;rw [zqx h];simp
theorem zlg {p:OA} {cap locs:Nat} {l:List InsD} {w:Wd} (hl:SlR zA w p l) (hG:GlobC w) (hn:l.length<=140737488351232) :
  CB 67 #[.slice p l.length cap,i64 locs] w (.bool (qy l locs)):=by
 refine zF 43 [.slice p l.length cap,i64 locs] Tryz.func67 ?_;obtain⟨L,hL⟩:=nm (w.heap.size);refine biE (fun h=>?_) fun h=>?_
 ·have h:(12:Int)<l.length:=dT h;exact⟨rb (by unfold qy;rw [Uc (by omega)];rfl),UW _ _⟩
 have h12:¬ (12:Int)<l.length:=dF h;refine⟨spC zrs locs 0,rfl,zo (X:=w) (v := .agg (spC zrs locs 0).toArray) zuJ rfl rfl rfl fun V hbV fV sV=>cmo zrY ?_⟩;rintro e W0 ⟨rfl,hbx,hsl,hsz,hb0⟩;rw [sV,<- hL] at hsz hbx hsl;have hI0:ThI W0 L zrs locs 0:=⟨hL▸zb hb0 fV,hbx,hsl⟩;have hbw:Bw w W0:=zst hbV hb0;have p1:some (Value.pointer (some ⟨w.heap.size,0,none⟩))=some (At0 L):=by rw [hL]
 have p2:some (Value.slice (some ⟨V.heap.size+1,0,none⟩) 8 8)=some (Value.slice (some ⟨L+2,0,none⟩) 8 8):=by rw [sV,hL]
 clear hbx hsl fV sV hb0 hbV;refine⟨Nat,fun k=>⟨[(0,.slice p l.length cap),(1,i64 locs),(5,At0 L),(6,.slice (some ⟨L+2,0,none⟩) 8 8),(17,.slice p l.length cap),(18,i64 l.length),(19,i64 (k:Nat))],[]⟩,
  fun k X=>k<=l.length/\(∀ i,i<k->∀ x,l[i]?=some x->zhU x locs (l.length-1-i)=true)/\(∃ x aft,ThI X L x locs aft)/\Bw w X,fun k=>l.length-k,0,
  ⟨.cons rfl (.cons rfl (.cons p1 (.cons p2 (.cons rfl (.cons rfl (.cons rfl .nil)))))),rfl⟩,⟨UU _,fun i hi=>by omega,⟨zrs,0,hI0⟩,hbw⟩,?_⟩
 rintro k X ⟨hk,hdone,⟨x0,a0,hI⟩,hbX⟩;dsimp only at hk hdone ⊢;refine biE (fun hc=>?_) fun hc=>?_
 ·have hc:(k:Int)<(l.length:Int):=dT hc;have hkl:k<l.length:=by omega
  obtain⟨b,o,rfl,hbl,hat⟩:=hl.at hkl;refine⟨k,rfl,hkl,?_⟩;have hx:=hat k hkl;refine⟨zA.enc l[k],rfl,zS hbX hbl hx,nL hbl hbX.size,zo (X:=X) (v := .agg (zA.enc l[k]).toArray) k55 rfl rfl rfl fun Y hbY fY sY=>⟨zA.enc l[k],rfl,za fY,hlt fY,((l.length-1:Nat):Int),(ze (by omega)).trans (by omega),((l.length-1-k:Nat):Int),(ze (by omega)).trans (by omega),?_⟩⟩;have hY:=hI.below hbY;refine jZ k55 hY.c (o:=0) (v := .agg (zA.enc l[k]).toArray) rfl (by show 0+10<=12;omega) rfl fun Z fZ gZ sZ=>jZ k3 fZ (o:=11) (v:=i64 (l.length-1-k:Nat)) rfl (by show 11+1<=12;omega) rfl fun U fU gU sU=>?_;have hIU:ThI U L l[k] locs (l.length-1-k):=⟨fU,(gU.block _ (by have:=hlt hY.b;omega) (by simp)).trans ((gZ.block _ (hlt hY.b) (by simp)).trans hY.b),(gU.block _ (by have:=hlt hY.s;omega) (by simp)).trans ((gZ.block _ (hlt hY.s) (by simp)).trans hY.s)⟩;have hbU:Bw w U:=by
   have h1:Bw w Y:=zst hbX hbY;have h2:∀ (A B:Wd),Bw w A->A.grownBy B (some L)->Bw w B:=fun A B ha hg=>ha.trans ⟨hg.os,hg.tape,hg.output,hg.size,fun j hj=>hg.block j (nL hj ha.size) (by simp;omega)⟩;exact h2 _ _ (h2 _ _ h1 gZ) gU
  refine⟨Nat,fun j=>⟨[(0,.slice (some ⟨b,o,none⟩) l.length cap),(1,i64 locs),(5,At0 L),(6,.slice (some ⟨L+2,0,none⟩) 8 8),(17,.slice (some ⟨b,o,none⟩) l.length cap),(18,i64 l.length),(19,i64 (k:Nat)),(32,.slice (some ⟨L+2,0,none⟩) 8 8),(33,i64 8),(34,i64 (j:Nat))],[]⟩,
   fun j X=>j<=8/\(∀ i,i<j->(qT l[k] locs (l.length-1-k))[i]?=some true)/\ThI X L l[k] locs (l.length-1-k)/\Bw w X,fun j=>8-j,0,
   (cvE rfl rfl),⟨UU _,fun i hi=>by omega,hIU,hbU⟩,?_⟩
  clear hIU hbU;rintro j X2 ⟨hj,hpre,hI2,hb2⟩;dsimp only at hj hpre ⊢;have hG2:GlobC X2:=hG.below hb2;have hS:SpV X2 L (L+1) l[k] locs (l.length-1-k):=⟨hI2.c,hI2.b,hG2⟩;refine biE (fun hc2=>?_) fun hc2=>?_
  ·have hc2:(j:Int)<8:=dT hc2;refine⟨j,rfl,(by omega),?_⟩;have ho:0<j->l[k].op.toNat<=8:=fun h0=>by
    have:=Ua (hpre 0 h0);rw [bAT] at this;exact dT this.2
   have hat2:∀ {v:Value},(zjr L (L+1))[j]?=some v->X2.cell? ⟨L+2,0+j*1,none⟩=some v:=fun hv=>by
    have:=zc (za hI2.s) (i:=j) (by simpa using hv);rw [US];exact this
   have hcs:j=0\/j=1\/j=2\/j=3\/j=4\/j=5\/j=6\/j=7:=by omega
   rcases hcs with rfl | rfl | rfl | rfl | rfl | rfl | rfl | rfl
   ·refine⟨_,hat2 rfl,cmo (zr4 hS) ?_⟩;rintro e W ⟨rfl,hbW⟩;have hI3:=hI2.below hbW;refine biE (fun hb=>?_) fun hb=>?_
    ·have hb:(!((qT l[k] locs (l.length-1-k))[0]'(by show 0<8;decide)))=true:=hb;have hb:(qT l[k] locs (l.length-1-k))[0]?=some false:=(by rw [gE (by show 0<8;decide)];exact Gd some (by rw [<- UC ((qT l[k] locs (l.length-1-k))[0]'(by show 0<8;decide)),hb];rfl));exact zdl hkl hb ((zst hb2 hbW))
    ·have hb:(!((qT l[k] locs (l.length-1-k))[0]'(by show 0<8;decide)))=false:=hb;have hb:(qT l[k] locs (l.length-1-k))[0]?=some true:=(by rw [gE (by show 0<8;decide)];exact Gd some (by rw [<- UC ((qT l[k] locs (l.length-1-k))[0]'(by show 0<8;decide)),hb];rfl));refine⟨_,(ze (by omega)).trans rfl,1,(cvE rfl rfl),⟨by omega,fun i hi=>?_,hI3,(zst hb2 hbW)⟩,by decide⟩;by_cases hik:i=0
     ·rw [hik];exact hb
     ·exact hpre i (by omega)
   ·refine⟨_,hat2 rfl,cmo (zr3 hS (ho (by omega))) ?_⟩;rintro e W ⟨rfl,hbW⟩;have hI3:=hI2.below hbW;refine biE (fun hb=>?_) fun hb=>?_
    ·have hb:(!((qT l[k] locs (l.length-1-k))[1]'(by show 1<8;decide)))=true:=hb;have hb:(qT l[k] locs (l.length-1-k))[1]?=some false:=(by rw [gE (by show 1<8;decide)];exact Gd some (by rw [<- UC ((qT l[k] locs (l.length-1-k))[1]'(by show 1<8;decide)),hb];rfl));exact zdl hkl hb ((zst hb2 hbW))
    ·have hb:(!((qT l[k] locs (l.length-1-k))[1]'(by show 1<8;decide)))=false:=hb;have hb:(qT l[k] locs (l.length-1-k))[1]?=some true:=(by rw [gE (by show 1<8;decide)];exact Gd some (by rw [<- UC ((qT l[k] locs (l.length-1-k))[1]'(by show 1<8;decide)),hb];rfl));refine⟨_,(ze (by omega)).trans rfl,2,(cvE rfl rfl),⟨by omega,fun i hi=>?_,hI3,(zst hb2 hbW)⟩,by decide⟩;by_cases hik:i=1
     ·rw [hik];exact hb
     ·exact hpre i (by omega)
   ·refine⟨_,hat2 rfl,cmo (zr2 hS) ?_⟩;rintro e W ⟨rfl,hbW⟩;have hI3:=hI2.below hbW;refine biE (fun hb=>?_) fun hb=>?_
    ·have hb:(!((qT l[k] locs (l.length-1-k))[2]'(by show 2<8;decide)))=true:=hb;have hb:(qT l[k] locs (l.length-1-k))[2]?=some false:=(by rw [gE (by show 2<8;decide)];exact Gd some (by rw [<- UC ((qT l[k] locs (l.length-1-k))[2]'(by show 2<8;decide)),hb];rfl));exact zdl hkl hb ((zst hb2 hbW))
    ·have hb:(!((qT l[k] locs (l.length-1-k))[2]'(by show 2<8;decide)))=false:=hb;have hb:(qT l[k] locs (l.length-1-k))[2]?=some true:=(by rw [gE (by show 2<8;decide)];exact Gd some (by rw [<- UC ((qT l[k] locs (l.length-1-k))[2]'(by show 2<8;decide)),hb];rfl));refine⟨_,(ze (by omega)).trans rfl,3,(cvE rfl rfl),⟨by omega,fun i hi=>?_,hI3,(zst hb2 hbW)⟩,by decide⟩;by_cases hik:i=2
     ·rw [hik];exact hb
     ·exact hpre i (by omega)
   ·refine⟨_,hat2 rfl,cmo (zr1 hS (ho (by omega))) ?_⟩;rintro e W ⟨rfl,hbW⟩;have hI3:=hI2.below hbW;refine biE (fun hb=>?_) fun hb=>?_
    ·have hb:(!((qT l[k] locs (l.length-1-k))[3]'(by show 3<8;decide)))=true:=hb;have hb:(qT l[k] locs (l.length-1-k))[3]?=some false:=(by rw [gE (by show 3<8;decide)];exact Gd some (by rw [<- UC ((qT l[k] locs (l.length-1-k))[3]'(by show 3<8;decide)),hb];rfl));exact zdl hkl hb ((zst hb2 hbW))
    ·have hb:(!((qT l[k] locs (l.length-1-k))[3]'(by show 3<8;decide)))=false:=hb;have hb:(qT l[k] locs (l.length-1-k))[3]?=some true:=(by rw [gE (by show 3<8;decide)];exact Gd some (by rw [<- UC ((qT l[k] locs (l.length-1-k))[3]'(by show 3<8;decide)),hb];rfl));refine⟨_,(ze (by omega)).trans rfl,4,(cvE rfl rfl),⟨by omega,fun i hi=>?_,hI3,(zst hb2 hbW)⟩,by decide⟩;by_cases hik:i=3
     ·rw [hik];exact hb
     ·exact hpre i (by omega)
   ·refine⟨_,hat2 rfl,cmo (zr0 hS) ?_⟩;rintro e W ⟨rfl,hbW⟩;have hI3:=hI2.below hbW;refine biE (fun hb=>?_) fun hb=>?_
    ·have hb:(!((qT l[k] locs (l.length-1-k))[4]'(by show 4<8;decide)))=true:=hb;have hb:(qT l[k] locs (l.length-1-k))[4]?=some false:=(by rw [gE (by show 4<8;decide)];exact Gd some (by rw [<- UC ((qT l[k] locs (l.length-1-k))[4]'(by show 4<8;decide)),hb];rfl));exact zdl hkl hb ((zst hb2 hbW))
    ·have hb:(!((qT l[k] locs (l.length-1-k))[4]'(by show 4<8;decide)))=false:=hb;have hb:(qT l[k] locs (l.length-1-k))[4]?=some true:=(by rw [gE (by show 4<8;decide)];exact Gd some (by rw [<- UC ((qT l[k] locs (l.length-1-k))[4]'(by show 4<8;decide)),hb];rfl));refine⟨_,(ze (by omega)).trans rfl,5,(cvE rfl rfl),⟨by omega,fun i hi=>?_,hI3,(zst hb2 hbW)⟩,by decide⟩;by_cases hik:i=4
     ·rw [hik];exact hb
     ·exact hpre i (by omega)
   ·refine⟨_,hat2 rfl,cmo (zkw hS.cells) ?_⟩;rintro e _ ⟨rfl,rfl⟩;have hbW:Bw X2 X2:=UW _ _;have hI3:=hI2;refine biE (fun hb=>?_) fun hb=>?_
    ·have hb:(!((qT l[k] locs (l.length-1-k))[5]'(by show 5<8;decide)))=true:=hb;have hb:(qT l[k] locs (l.length-1-k))[5]?=some false:=(by rw [gE (by show 5<8;decide)];exact Gd some (by rw [<- UC ((qT l[k] locs (l.length-1-k))[5]'(by show 5<8;decide)),hb];rfl));exact zdl hkl hb ((zst hb2 hbW))
    ·have hb:(!((qT l[k] locs (l.length-1-k))[5]'(by show 5<8;decide)))=false:=hb;have hb:(qT l[k] locs (l.length-1-k))[5]?=some true:=(by rw [gE (by show 5<8;decide)];exact Gd some (by rw [<- UC ((qT l[k] locs (l.length-1-k))[5]'(by show 5<8;decide)),hb];rfl));refine⟨_,(ze (by omega)).trans rfl,6,(cvE rfl rfl),⟨by omega,fun i hi=>?_,hI3,(zst hb2 hbW)⟩,by decide⟩;by_cases hik:i=5
     ·rw [hik];exact hb
     ·exact hpre i (by omega)
   ·refine⟨_,hat2 rfl,cmo (zoj hS.cells) ?_⟩;rintro e _ ⟨rfl,rfl⟩;have hbW:Bw X2 X2:=UW _ _;have hI3:=hI2;refine biE (fun hb=>?_) fun hb=>?_
    ·have hb:(!((qT l[k] locs (l.length-1-k))[6]'(by show 6<8;decide)))=true:=hb;have hb:(qT l[k] locs (l.length-1-k))[6]?=some false:=(by rw [gE (by show 6<8;decide)];exact Gd some (by rw [<- UC ((qT l[k] locs (l.length-1-k))[6]'(by show 6<8;decide)),hb];rfl));exact zdl hkl hb ((zst hb2 hbW))
    ·have hb:(!((qT l[k] locs (l.length-1-k))[6]'(by show 6<8;decide)))=false:=hb;have hb:(qT l[k] locs (l.length-1-k))[6]?=some true:=(by rw [gE (by show 6<8;decide)];exact Gd some (by rw [<- UC ((qT l[k] locs (l.length-1-k))[6]'(by show 6<8;decide)),hb];rfl));refine⟨_,(ze (by omega)).trans rfl,7,(cvE rfl rfl),⟨by omega,fun i hi=>?_,hI3,(zst hb2 hbW)⟩,by decide⟩;by_cases hik:i=6
     ·rw [hik];exact hb
     ·exact hpre i (by omega)
   ·refine⟨_,hat2 rfl,cmo (zrZ hS (ho (by omega))) ?_⟩;rintro e W ⟨rfl,hbW⟩;have hI3:=hI2.below hbW;refine biE (fun hb=>?_) fun hb=>?_
    ·have hb:(!((qT l[k] locs (l.length-1-k))[7]'(by show 7<8;decide)))=true:=hb;have hb:(qT l[k] locs (l.length-1-k))[7]?=some false:=(by rw [gE (by show 7<8;decide)];exact Gd some (by rw [<- UC ((qT l[k] locs (l.length-1-k))[7]'(by show 7<8;decide)),hb];rfl));exact zdl hkl hb ((zst hb2 hbW))
    ·have hb:(!((qT l[k] locs (l.length-1-k))[7]'(by show 7<8;decide)))=false:=hb;have hb:(qT l[k] locs (l.length-1-k))[7]?=some true:=(by rw [gE (by show 7<8;decide)];exact Gd some (by rw [<- UC ((qT l[k] locs (l.length-1-k))[7]'(by show 7<8;decide)),hb];rfl));refine⟨_,(ze (by omega)).trans rfl,8,(cvE rfl rfl),⟨by omega,fun i hi=>?_,hI3,(zst hb2 hbW)⟩,by decide⟩;by_cases hik:i=7
     ·rw [hik];exact hb
     ·exact hpre i (by omega)
  ·have hc2:¬ (j:Int)<8:=dF hc2;obtain rfl:j=8:=by omega
   have hok:zhU l[k] locs (l.length-1-k)=true:=zld hpre rfl;refine nxI (by omega) ⟨k+1,(cvE rfl rfl),⟨hkl,fun i hi x hlx=>?_,⟨_,_,hI2⟩,hb2⟩,zdc (by omega)⟩;by_cases hik:i=k
   ·subst hik;rw [gE hkl] at hlx;rw [<- Ua hlx];exact hok
   ·exact hdone i (by omega) x hlx
 ·have hc:¬ (k:Int)<(l.length:Int):=dF hc;obtain rfl:k=l.length:=by omega
  refine⟨rb ?_,hbX⟩;unfold qy;rw [Un (by omega),Ut,Eq.comm,Qg];intro i hi;have hi:i<l.length:=Uj.1 hi;rw [gE hi];exact hdone i hi _ (gE hi)
structure GlobE (w:Wd):Prop where
 c:GlobC w
 t64:Tz64M w
 t32:Tz32M w
theorem GlobE.below {w w2:Wd} (h:GlobE w) (hb:Bw w w2):GlobE w2:=⟨h.c.below hb,h.t64.below hb,h.t32.below hb⟩
abbrev zdv:=PathD×(OA×Nat)×(OA×Nat)×(OA×Nat)×(OA×Nat)
def jT:Enc zdv:=⟨fun x=>zhP x.1 x.2.1.1 x.2.1.2 x.2.2.1.1 x.2.2.1.2 x.2.2.2.1.1 x.2.2.2.1.2 x.2.2.2.2.1 x.2.2.2.2.2,12,fun _=>zki ..,by decide,fun a u hu=>Qg.1 (zkh ..) u hu⟩
structure RowIn {α:Type} (E:Enc α) (T:TypeId) (B:Nat) (F:Nat->Prop) (Y:Wd) (q:OA) (c:Nat) (l:List α):Prop where
 own:OwnS E T B Y q c l
 inF:∀ a,q=some a->F a.block
section
variable {α:Type} {E:Enc α} {T:TypeId} {B:Nat} {F G:Nat->Prop} {Y Z:Wd} {q:OA} {c:Nat} {l:List α}
theorem zaJ (h:OwnS E T B Y q c l) {a:Addr} (ha:q=some a):B<=a.block/\a.block<Y.heap.size/\∃ cur,Y.heap[a.block]?=some (.cells cur T (0,0)):=by
 rcases h.inv with ⟨h1,_⟩ | ⟨g,cur,h1,h2,h3,_⟩
 ·rw [h1] at ha;cases ha
 ·rw [h1] at ha;cases ha;exact⟨h2,hlt h3,cur,h3⟩
theorem RowIn.same (h:RowIn E T B F Y q c l) (hs:∀ k,F k->k<Y.heap.size->Z.heap[k]?=Y.heap[k]?) (hG:∀ k,F k->G k):RowIn E T B G Z q c l :=
 ⟨h.own.same fun a ha=>hs _ (h.inF a ha) (zaJ h.own ha).2.1,fun a ha=>hG _ (h.inF a ha)⟩
end
def PthIn (B:Nat) (F:Nat->Prop) (Y:Wd) (x:zdv):Prop:=RowIn evE 49 B F Y x.2.1.1 x.2.1.2 x.1.ev/\RowIn prE 231 B F Y x.2.2.1.1 x.2.2.1.2 x.1.data/\RowIn prE 231 B F Y x.2.2.2.1.1 x.2.2.2.1.2 x.1.ctrl/\RowIn prE 231 B F Y x.2.2.2.2.1 x.2.2.2.2.2 x.1.rmw
theorem PthIn.same {B:Nat} {F G:Nat->Prop} {Y Z:Wd} {x:zdv} (h:PthIn B F Y x) (hs:∀ k,F k->k<Y.heap.size->Z.heap[k]?=Y.heap[k]?) (hG:∀ k,F k->G k):PthIn B G Z x :=
 ⟨h.1.same hs hG,h.2.1.same hs hG,h.2.2.1.same hs hG,h.2.2.2.same hs hG⟩
theorem jq {W A B:Wd} {r:Option Nat} (h:W.grownBy A r) (hb:Below W.heap.size A B):W.grownBy B r :=
 ⟨hb.os.trans h.os,hb.tape.trans h.tape,hb.output.trans h.output,UI h.size hb.size,fun k hk hne=>(hb.block k hk).trans (h.block k hk hne)⟩
theorem zqR {q:OA} {cap:Nat} {l:List InsD} {w:Wd} (hl:SlR zA w q l) (hG:GlobC w) (hn:l.length<=140737488351232) :
  CB 104 #[.slice q l.length cap] w (.bool (qy l 6)):=by
 refine zF 5 [.slice q l.length cap] Tryz.func104 ?_;refine cmo (zlg (locs:=6) hl hG hn) ?_;rintro e X ⟨rfl,hb⟩;exact⟨rfl,hb⟩
def JPa (B n0 L:Nat) (W:Wd) (pre:List RunD) (F:Nat->Prop) (Y:Wd):Prop :=
 (n0<=Y.heap.size/\F L/\∀ k,F k->k<Y.heap.size)/\(∃ (xs:List zdv) (p:OA) (c:Nat),Y.heap[L]?=some (.cells [.slice p xs.length c].toArray 130 (0,0))/\RowIn jT 138 B F Y p c xs/\xs.map (·.1)=pre.map j4/\∀ x∈xs,PthIn n0 F Y x)/\Below B W Y
theorem JPa.iter {B n0 L:Nat} {W:Wd} (hB:B<=n0) (hn:n0=W.heap.size):JG n0 (fun _=>False) (JPa B n0 L W):=by
 refine⟨?_,?_⟩
 ·rintro pre F A C ⟨⟨h1,h2,h3⟩,⟨xs,p,c,h4,h5,h6,h7⟩,h8⟩ hs;have sf:∀ k,F k->k<A.heap.size->C.heap[k]?=A.heap[k]?:=fun k hk hl=>hs.same k hl (.inr hk);refine⟨⟨UI h1 hs.size,h2,fun k hk=>nL (h3 k hk) hs.size⟩,⟨xs,p,c,(sf L h2 (h3 L h2)).trans h4,h5.same sf fun k h=>h,h6,fun x hx=>(h7 x hx).same sf fun k h=>h⟩,h8.trans ⟨hs.os,hs.tape,hs.output,hs.size,fun k hk=>hs.same k (by omega) (.inl ⟨by omega,fun h=>h⟩)⟩⟩
 ·rintro pre F A k ⟨⟨_,_,h3⟩,_⟩ hk;exact⟨h3 k hk,fun h=>h⟩
def PthO (B:Nat) (Y:Wd) (x:zdv):Prop:=OwnS evE 49 B Y x.2.1.1 x.2.1.2 x.1.ev/\OwnS prE 231 B Y x.2.2.1.1 x.2.2.1.2 x.1.data/\OwnS prE 231 B Y x.2.2.2.1.1 x.2.2.2.1.2 x.1.ctrl/\OwnS prE 231 B Y x.2.2.2.2.1 x.2.2.2.2.2 x.1.rmw
theorem PthO.mono {B B':Nat} {Y:Wd} {x:zdv} (h:PthO B Y x) (hB:B'<=B):PthO B' Y x:=⟨OwnS.lower h.1 hB,OwnS.lower h.2.1 hB,OwnS.lower h.2.2.1 hB,OwnS.lower h.2.2.2 hB⟩
structure RelAt (X:Wd) (b o:Nat) (T:TypeId) (A Z:List Value) (r:RelD):Prop where
 at_:A.length=o
 cells:X.heap[b]?=some (.cells (A++(zf r++Z)).toArray T (0,0))
section
variable {X:Wd} {b o:Nat} {T:TypeId} {A Z:List Value} {r:RelD}
theorem RelAt.cell (h:RelAt X b o T A Z r) {i:Nat} (hi:i<48):X.cell? ⟨b,o+1+i*1,none⟩=some (s64 (r.to i)):=by
 have:(A++(zf r++Z))[o+1+i*1]?=some (s64 (r.to i)):=by
  rw [US,Uz,qW h.at_,Jq (by rw [zg];omega),zeA r hi]
 have h2:=zc (za h.cells) this;rw [UM] at h2;exact h2
theorem RelAt.set (h:RelAt X b o T A Z r) {i:Nat} (hi:i<48) (v:Nat):(A++(zf r++Z)).set (o+1+i*1) (s64 v)=A++(zf ⟨r.n,upd r.to i v⟩++Z):=by
 rw [US,Uz,qC h.at_,List.set_append_left _ _ (by rw [zg];omega),zez r hi]
theorem RelAt.len (h:RelAt X b o T A Z r):(A++(zf r++Z)).length=o+49+Z.length:=by
 rw [lap,lap,zg,h.at_];omega
theorem RelAt.same {Y:Wd} (h:RelAt X b o T A Z r) (hs:Y.heap[b]?=X.heap[b]?):RelAt Y b o T A Z r:=⟨h.at_,hs.trans h.cells⟩
def zpn (f:Nat) (ps:List (Nat×Nat)):Prop:=∀ p∈ps,f+p.1<48/\f+p.2<48
theorem zeC {f:Nat}:∀ {ps:List (Nat×Nat)} {to:Nat->Nat},zJ to->zpn f ps->zJ (zfe f ps to)
 | [],_,h,_=>h
 | p::ps,to,h,hp=>by
  have h1:=hp p Kx;exact zeC (ps:=ps) (zf5 h (KV (h _ h1.1) (zZ (by omega)))) fun q hq=>hp q (JW _ hq)
theorem zlr {n:Nat} (h:n<256):((UInt8.ofNat n).toNat:Int)=(n:Nat):=by
 have:(UInt8.ofNat n).toNat=n:=by simp;omega
 rw [this]
theorem zpm {w:Wd} {q:OA} {cap f:Nat} {ps:List (Nat×Nat)} (hr:RelAt w b o T A Z r) (hw:zJ r.to) (hl:SlR prE w q ps) (hqb:∀ a,q=some a->a.block≠b) (hn:ps.length<=100000) (hp:zpn f ps) :
  Calls PG 109 #[.pointer (some ⟨b,o,none⟩),.slice q ps.length cap,i64 f] w fun e w'=>e = .returned (.tuple #[])/\RelAt w' b o T A Z (zlL f ps r)/\w.grownBy w' (some b):=by
 refine zF 35 [.pointer (some ⟨b,o,none⟩),.slice q ps.length cap,i64 f] Tryz.func109 ?_;have hbw:=hlt hr.cells;refine⟨Nat×(Nat->Nat),fun s=>⟨[(0,.pointer (some ⟨b,o,none⟩)),(1,.slice q ps.length cap),(2,i64 f),(8,.slice q ps.length cap),(9,i64 ps.length),(10,i64 (s.1:Nat))],[]⟩,
  fun s X=>s.1<=ps.length/\zJ s.2/\zfe f (ps.drop s.1) s.2=zfe f ps r.to/\RelAt X b o T A Z ⟨r.n,s.2⟩/\w.grownBy X (some b),fun s=>ps.length-s.1,(0,r.to),
  (cvE rfl rfl),⟨UU _,hw,rfl,hr,qg _ _⟩,?_⟩
 rintro⟨k,g⟩ X ⟨hk,hg,he,hX,gX⟩;dsimp only at hk hg he hX ⊢;have hXs:=gX.size;refine biE (fun hc=>?_) fun hc=>?_
 ·have hc:(k:Int)<(ps.length:Int):=dT hc;have hkl:k<ps.length:=by omega
  obtain⟨pr,hpr⟩:∃ pr,ps[k]=pr:=⟨_,rfl⟩;obtain⟨p1,p2⟩:=hp pr (by rw [<- hpr];exact gM hkl);rw [<- JE hkl,hpr] at he;have he:zfe f (ps.drop (k+1)) (upd g (f+pr.1) (g (f+pr.1)|||2^(f+pr.2)))=zfe f ps r.to:=he;obtain⟨bp,op,rfl,hlp,hat⟩:=hl.at hkl;have hbp:bp≠b:=hqb _ rfl;have hatX:zI X ⟨bp,op+k*2,none⟩ (prE.enc ps[k]):=js (gX.block bp hlp (by simpa using hbp)) (hat k hkl);refine⟨k,rfl,hkl,prE.enc pr,rfl,by rw [<- hpr];exact hatX,nL hlp hXs,?_⟩;refine zo (X:=X) (v := .agg (prE.enc pr).toArray) zua rfl rfl rfl fun Y hbY fY sY=>DrawE.ord [20] [0,1,2,3,4,5,6,7,8,9,10,11,12,13,14,15,16,17,18,19,20] (by kernel_rfl) ?_;have fY1:Y.heap[X.heap.size]?=some (.cells (prE.enc pr).toArray 231 (0,0)):=fY;have hrY:=hX.same (hbY.block b (nL hbw hXs));refine⟨0,rfl,by decide,?_⟩;refine⟨u8 (UInt8.ofNat pr.1),zc (za (hdr fY1)) (i:=0*1) rfl,((pr.1:Nat):Int),by rw [zlr (by omega)];exact ze (by omega),((f+pr.1:Nat):Int),(ze (by omega)).trans (by omega),f+pr.1,rfl,by omega,?_⟩;refine⟨s64 (g (f+pr.1)),(hrY.same (Y:=Y.drew) rfl).cell p1,1,rfl,by decide,?_⟩;refine⟨u8 (UInt8.ofNat pr.2),zc (za (hdr fY1)) (i:=1*1) rfl,((pr.2:Nat):Int),by rw [zlr (by omega)];exact ze (by omega),((f+pr.2:Nat):Int),(ze (by omega)).trans (by omega),by omega,_,jX (e:=f+pr.2) (by omega),_,zaf (hg _ p1) (zZ (by omega)),f+pr.1,rfl,by omega,?_⟩;refine zm k36 (hrY.same (Y:=Y.drew) rfl).cells (o:=o+1+(f+pr.1)*1) (v:=s64 (g (f+pr.1)|||2^(f+pr.2))) rfl rfl (by rw [hrY.len];omega) rfl fun S fS gS sS=>?_;rw [hrY.set p1] at fS;exact nxI (by omega) ⟨(k+1,_),(cvE rfl rfl),⟨hkl,zf5 hg (KV (hg _ p1) (zZ (by omega))),he,⟨hr.at_,fS⟩,zd gX (zd (zi hbY) (zd (zi (UW _ Y).drew) gS))⟩,zdc (by omega)⟩
 ·have hc:¬ (k:Int)<(ps.length:Int):=dF hc;obtain rfl:k=ps.length:=by omega
  rw [Qj] at he;have he:g=zfe f ps r.to:=he;subst he;exact⟨rfl,hX,gX⟩
end
def zuU (pre:List Nat) (vs:List Value) (W:Wd):Prop:=∃ (a i:Nat),pre.getLast?=some a/\vs=[i64 i,i64 a]
theorem ztK {bx:Nat} {l:List Nat} {q:OA} {c:Nat} {W0:Wd} (fx:W0.heap[bx]?=some (.cells #[.slice q l.length c] 62 (0,0))) (hl:SlR zC W0 q l) (hql:∀ a,q=some a->a.block<W0.heap.size) (hn:l.length<=100000) :
  ziJ PG 156 [At0 bx] l.reverse W0 (fun k=>k=bx\/∃ a,q=some a/\k=a.block) (fun _=>False) zuU:=by
 intro yl F0 J Jx W hsz hrd hrf hJ hJx hy h0;have fxW:=(hrd bx (.inl (.inl rfl))).trans fx;have hlW:SlR zC W q l:=je hl fun a ha=>hrd _ (.inl (.inr ⟨a,ha,rfl⟩));have hbxW:=hlt fxW;refine zF 19 [.func (.yield yl) #[] #[],At0 bx] Tryz.func156 ?_;refine⟨_,zc (za fxW) (i:=0) rfl,((l.length:Nat):Int)-1,ze (by omega),?_⟩;refine⟨Nat×(Nat->Prop),fun s=>⟨[(0,.func (.yield yl) #[] #[]),(1,At0 bx),(3,i64 (((l.length:Nat):Int)-1-(s.1:Nat)))],[]⟩,
  fun s V=>s.1<=l.length/\J (l.reverse.take s.1) s.2 V/\W.heap.size<=V.heap.size/\V.heap[bx]?=some (.cells #[.slice q l.length c] 62 (0,0))/\¬ s.2 bx/\RowF zC W.heap.size s.2 V q l,fun s=>l.length-s.1,(0,F0),
  ⟨.cons rfl (.cons rfl (.cons (by show _=some (i64 (((l.length:Nat):Int)-1-((0:Nat):Int)));rw [Int.ofNat_zero,Int.sub_zero];rfl) .nil)),rfl⟩,⟨UU _,h0,UR _,fxW,hrf _ (.inl rfl),⟨hlW,fun a ha=>⟨by have:=hql a ha;omega,hrf _ (.inr ⟨a,ha,rfl⟩)⟩⟩⟩,?_⟩
 rintro⟨t,F⟩ V ⟨ht,hjV,hWV,fxV,hbF,hqV⟩;dsimp only at ht hjV hbF hqV ⊢;refine biE (fun hi=>?_) fun hi=>?_
 ·have hi:(0:Int)<=((l.length:Nat):Int)-1-(t:Nat):=dT hi;obtain⟨i,hit⟩:∃ i,i+t+1=l.length:=⟨l.length-1-t,by omega⟩;have hii:((l.length:Nat):Int)-1-(t:Nat)=(i:Nat):=by omega
  rw [hii];have hil:i<l.length:=by omega
  have hrt:l.reverse[t]?=some l[i]:=by
   rw [JK (by omega),show l.length-1-t=i by omega,gE hil]
  have htl:t<l.reverse.length:=by rw [Kh];omega
  have hre:l.reverse[t]=l[i]:=by rw [gE htl] at hrt;exact Ua hrt
  have htk:l.reverse.take (t+1)=l.reverse.take t++[l[i]]:=by rw [tsg htl,hre]
  refine⟨_,zc (za fxV) (i:=0) rfl,?_⟩;obtain⟨bq,oq,hqe,hlq,hatq⟩:=hqV.row.at hil;subst hqe;refine⟨i,rfl,hil,i64 l[i],zc (hatq i hil) (i:=0) rfl,YieldR.mono (hy _ l[i] [i64 (i:Nat),i64 l[i]] F V hjV ⟨l[i],i,by simp,rfl⟩ (by rw [<- htk];exact List.take_prefix _ _)) ?_⟩;rintro v Y (⟨rfl,F',hjY,kY⟩ | ⟨rfl,F',hjY⟩)
  ·refine brF ?_;have hbF':¬ F' bx:=fun h=>by
    rcases kY.fp bx h with h | h
    ·exact hbF h
    ·have:=hlt fxV;omega
   exact⟨((l.length:Nat):Int)-1-((t+1:Nat):Int),(ze (by omega)).trans (by omega),(t+1,F'),(cvE rfl rfl),⟨by omega,by rw [htk];exact hjY,UI hWV kY.size,(kY.same bx (hlt fxV) hbF).trans fxV,hbF',hqV.keep hWV kY (fun _ _ h=>h)⟩,zdc (by omega)⟩
  ·exact brT ⟨⟨_,rfl⟩,.inr ⟨_,F',by rw [<- htk];exact List.take_prefix _ _,hjY⟩⟩
 ·have hi:¬ (0:Int)<=((l.length:Nat):Int)-1-(t:Nat):=dF hi;have hte:t=l.length:=by omega
  subst hte;rw [JF (by rw [Kh];exact UR _)] at hjV;exact⟨⟨_,rfl⟩,.inl ⟨F,hjV⟩⟩
theorem zsh {q:OA} {n c:Nat} {w:Wd}:Calls PG 113 #[.slice q n c] w fun e w'=>e = .returned (.func (.func 156) #[] #[At0 w.heap.size])/\w'.heap[w.heap.size]?=some (.cells #[.slice q n c] 62 (0,0))/\w'.heap.size=w.heap.size+1/\Bw w w':=by
 refine zF 4 [.slice q n c] Tryz.func113 ?_;exact⟨rfl,zy w _,wz _ _,(zba w _)⟩
theorem zpt {q:OA} {n c:Nat} {w:Wd}:Calls PG 75 #[.slice q n c] w fun e w'=>e = .returned (.func (.func 106) #[] #[At0 w.heap.size])/\w'.heap[w.heap.size]?=some (.cells #[.slice q n c] 62 (0,0))/\w'.heap.size=w.heap.size+1/\Bw w w':=by
 refine zF 4 [.slice q n c] Tryz.func75 ?_;exact⟨rfl,zy w _,wz _ _,(zba w _)⟩
def zfY (p:(Nat->Nat)×Nat) (a:Nat):(Nat->Nat)×Nat:=(upd p.1 a p.2,p.2|||2^a)
theorem zee:∀ (l:List Nat) (f:Nat->Nat) (b:Nat),zha l f b=(l.foldl zfY (f,b)).1
 | [],_,_=>rfl
 | a::l,f,b=>zee l (upd f a b) (b|||2^a)
theorem zji:∀ {l:List Nat} {f:Nat->Nat} {b:Nat},zJ f->b<2^64->(∀ a∈l,a<48)->zJ (l.foldl zfY (f,b)).1/\(l.foldl zfY (f,b)).2<2^64
 | [],_,_,h,hb,_=>⟨h,hb⟩
 | a::l,f,b,h,hb,hl=>zji (l:=l) (zf5 h hb) (KV hb (zZ (by have:=hl a Kx;omega))) fun x hx=>hl x (JW _ hx)
theorem zis {l:List Nat} {r:RelD} (h:zJ r.to) (hl:∀ a∈l,a<48):zJ (zas l r).to:=by
 show zJ (zha l.reverse r.to 0);rw [zee];exact (zji h (by decide) fun a ha=>hl a (by simpa using ha)).1
section
variable {b o:Nat} {T:TypeId} {A Z:List Value} {r:RelD} {w:Wd} {q:OA} {c:Nat} {l:List Nat}
theorem zpF (hr:RelAt w b o T A Z r) (hw:zJ r.to) (hl:SlR zC w q l) (hql:∀ a,q=some a->a.block<w.heap.size/\a.block≠b) (hn:l.length<=100000) (h48:∀ a∈l,a<48) :
  Calls PG 80 #[.pointer (some ⟨b,o,none⟩),.slice q l.length c] w fun e w'=>e = .returned (.tuple #[])/\RelAt w' b o T A Z (zas l r)/\w.grownBy w' (some b):=by
 refine qk 21 [.pointer (some ⟨b,o,none⟩),.slice q l.length c] (.s .p (.c .p .p)) Tryz.func80 ?_;obtain⟨L,hL⟩:=nm (w.heap.size);refine⟨Unit,fun _=>⟨[(1,.slice q l.length c),(2,At0 L),(4,At0 (L+1))],[]⟩,fun _ X=>X.heap[L]?=some (.cells #[.pointer (some ⟨b,o,none⟩)] 103 (0,0))/\X.heap[L+1]?=some (.cells #[s64 0] 36 (0,0))/\X.heap.size=L+2/\Bw w X,?_,?_⟩
 ·have s1:=wz w (.cells #[.pointer (some ⟨b,o,none⟩)] 103 (0,0));have h2:=zy (w.alloc (.cells #[.pointer (some ⟨b,o,none⟩)] 103 (0,0))) (.cells #[s64 0] 36 (0,0));have s2:=wz (w.alloc (.cells #[.pointer (some ⟨b,o,none⟩)] 103 (0,0))) (.cells #[s64 0] 36 (0,0));rw [s1] at h2 s2;exact⟨(),⟨.cons rfl (.cons (by rw [hL];rfl) (.cons (by rw [hL,<- s1];rfl) .nil)),rfl⟩,by rw [hL];exact qJ _ (zy w _),by rw [hL];exact h2,by rw [hL];exact s2,((zba w _)).alloc (by simp) _⟩
 rintro _ X ⟨f0,f1,sX,hbX⟩;have hbw:=hlt hr.cells;refine cmo zsh ?_;rintro e W ⟨rfl,fx,sW,hbW⟩;have hwW:=zst hbX hbW;have hI:=ztK fx (hl.below hwW) (fun a ha=>by have:=(hql a ha).1;omega) hn;have f0:=zb hbW f0;have f1:=zb hbW f1;refine zdb (ze7 _) rfl (lb := #[At0 X.heap.size]) rfl rfl hI (UR _) (fun k hk=>⟨?_,rfl⟩) (fun pre vs W ⟨a,i,_,h⟩=>by rw [h];rfl) (by decide)
  (fun k=>k=b\/k=L+1) (fun pre F Y=>F=(fun k=>k=b\/k=L+1)/\W.heap.size<=Y.heap.size/\RelAt Y b o T A Z ⟨r.n,(pre.foldl zfY (r.to,0)).1⟩/\Y.heap[L+1]?=some (.cells [s64 (pre.foldl zfY (r.to,0)).2].toArray 36 (0,0))/\Y.heap[L]?=some (.cells #[.pointer (some ⟨b,o,none⟩)] 103 (0,0))/\w.grownBy Y (some b)) (fun _ _ _ _=>False) (fun k hk=>?_)
  (joG (F:=fun k=>k=b\/k=L+1) (J:=fun (pre:List Nat) Y=>W.heap.size<=Y.heap.size/\RelAt Y b o T A Z ⟨r.n,(pre.foldl zfY (r.to,0)).1⟩/\Y.heap[L+1]?=some (.cells [s64 (pre.foldl zfY (r.to,0)).2].toArray 36 (0,0))/\Y.heap[L]?=some (.cells #[.pointer (some ⟨b,o,none⟩)] 103 (0,0))/\w.grownBy Y (some b))
   (fun k h=>by omega) (fun s A h=>h.1) (fun pre A B ⟨h1,h2,h3,h4,h5⟩ hb=>⟨UI h1 hb.size,h2.same (hb.block _ (by omega)),jn hb (by omega) h3,jn hb (by omega) h4,jq h5 (hb.mono hwW.size)⟩))
  (fun ex=>⟨fun _ _ _ _ h=>h.elim,fun _ _ _ _ h=>h.elim⟩) ⟨rfl,UR _,hr.same (hwW.block _ hbw),f1,f0,zi hwW⟩ ?_ ?_ ?_
 ·rcases hk with (rfl | ⟨a,ha,rfl⟩) | h
  ·omega
  ·have:=(hql a ha).1;have:=hwW.size;omega
  ·exact h.elim
 ·rcases hk with rfl | ⟨a,ha,rfl⟩
  ·omega
  ·have:=hql a ha;omega
 ·rintro yl pre x vs F Y hyl hpre hJ ⟨a,i,hlast,rfl⟩ hfy hlo;have hxa:x=a:=by simpa using hlast
  subst hxa;refine⟨rfl,F,KeepsG.refl _ _,hJ,?_⟩;rintro O Y2 hY2 ⟨rfl,h1,h2,h3,h4,h5⟩;obtain⟨g1,g2⟩:=zji (l:=pre) (f:=r.to) (b:=0) hw (by decide) (fun a ha=>h48 a (by have:=hpre.subset (JV _ ha);simpa using this));have hx48:x<48:=h48 x (by have:=hpre.subset (JN _ (Ky.2 rfl));simpa using this);have hfold:(pre++[x]).foldl zfY (r.to,0)=zfY (pre.foldl zfY (r.to,0)) x:=by rw [KQ];rfl
  obtain⟨P,hP⟩:=nm (pre.foldl zfY (r.to,0));rw [<- hP] at h2 h3 g1 g2 hfold;refine DrawE.ord [6] [0,1,2,3,4,5,6] (by kernel_rfl) ⟨_,zc (za (hdr h4)) (i:=0) rfl,_,zc (za (hdr h3)) (i:=0) rfl,x,rfl,hx48,zm k36 (h2.same (Y:=Y2.drew) rfl).cells (o:=o+1+x*1) (v:=s64 P.2) rfl rfl (by rw [h2.len];omega) rfl fun S fS gS sS=>?_⟩;rw [h2.set hx48] at fS;have gS2:Y2.grownBy S (some b):=zd (zi (UW _ Y2).drew) gS;have h3S:=(gS2.block (L+1) (hlt h3) (by simp;omega)).trans h3;refine DrawE.ord [4] [0,1,2,3,4] (by kernel_rfl) ⟨_,zc (za (hdr h3S)) (i:=0) rfl,by omega,_,jX (e:=x) (by omega),_,zaf g2 (zZ (by omega)),zm k36 (hdr h3S) (o:=0) (v:=s64 (P.2|||2^x)) rfl rfl (by show 0<1;decide) rfl fun V fV gV sV=>?_⟩;have gV2:S.grownBy V (some (L+1)):=zd (zi (UW _ S).drew) gV;have hLw:L=w.heap.size:=hL;refine⟨fun k=>k=b\/k=L+1,⟨rfl,?_,⟨hr.at_,?_⟩,by rw [hfold];exact fV,?_,?_⟩,(KeepsG.grown gS2 (.inl rfl)).trans (KeepsG.grown gV2 (.inr rfl))⟩
  ·have:=gS2.size;have:=gV2.size;omega
  ·rw [hfold];exact (gV2.block b (hlt fS) (by simp;omega)).trans fS
  ·exact (gV2.block L (nL (hlt h4) gS2.size) (by simp)).trans ((gS2.block L (hlt h4) (by simp;omega)).trans h4)
  ·exact⟨gV2.os.trans (gS2.os.trans h5.os),gV2.tape.trans (gS2.tape.trans h5.tape),gV2.output.trans (gS2.output.trans h5.output),by have:=gS2.size;have:=gV2.size;have:=h5.size;omega,fun k hk hne=>(gV2.block k (by have:=gS2.size;have:=h5.size;omega) (by simp;omega)).trans ((gS2.block k (by have:=h5.size;omega) hne).trans (h5.block k hk hne))⟩
 ·rintro D F Y hD hfD ⟨rfl,h1,h2,h3,h4,h5⟩ hdef;refine⟨_,rfl,hdef,?_⟩;have hDb:b≠D:=by have:=hwW.size;omega
  refine⟨rfl,⟨hr.at_,?_⟩,?_⟩
  ·rw [show zas l r=⟨r.n,(l.reverse.foldl zfY (r.to,0)).1⟩ by unfold zas;rw [zee]];exact (zj hDb).trans h2.cells
  ·exact⟨h5.os,h5.tape,h5.output,by have:=h5.size;simpa [World.putObj] using this,fun k hk hne=>(zj (by have:=hwW.size;omega)).trans (h5.block k hk hne)⟩
 ·rintro D ex pre F Y hD hfD hpre h;exact h.elim
end
theorem zja {P:Program} {iT:TI} {T B g cap i v:Nat} {l:List Nat} {w:Wd} (hT:TIok P T iT) (hs:iT.size=1) (h:OwnS zC T B w (some ⟨g,0,none⟩) cap l) (hi:i<l.length) {K:Wd->Prop}
  (k:∀ w',OwnS zC T B w' (some ⟨g,0,none⟩) cap (l.set i v)->w.grownBy w' (some g)->K w'):SatR ((storeVar T ⟨g,0+i*1,none⟩ (i64 v)).run P w) fun _ w'=>K w':=by
 rcases h.inv with ⟨h,_⟩ | ⟨g',cur,hg,hB,hc,hl,hm,hs2,ht⟩
 ·cases h
 ·simp only [KW,Up,Gc] at hg;subst hg;have e:cur=cur.toList.toArray:=rfl;have hsz:cur.toList.length=cap:=by
   have:cur.toList.length=cur.size:=rfl;rw [this,hs2];exact US _
  refine zm hT (cs:=cur.toList) (by rw [<- e];exact hc) (o:=0+i*1) (v:=i64 v) rfl hs (by omega) rfl fun w' fw gw sw=>k w' ?_ gw;unfold OwnS World.ownsRow;have ht:cur.toList.take (l.length*1)=l.flatMap zC.enc:=ht;refine⟨by rw [qu],.inr ⟨g,cap,_,rfl,hB,fw,by rw [QK];exact hl,hm,?_,?_⟩⟩
  ·show (cur.toList.set (0+i*1) (i64 v)).length=_;rw [QK];exact hs2
  ·show (cur.toList.set (0+i*1) (i64 v)).take ((l.set i v).length*1)=_;rw [US,UM,US,QK,List.take_set,<- US l.length,ht,zeH,zeH];unfold zi2;rw [UE]
theorem zrI {before:Nat->Nat}:∀ (m left:Nat) (l:List Nat),∀ x∈zao before m left l,∀ a∈x,a∈l\/a∈els left:=by
 intro m
 induction m with
 | zero =>
  intro left l x hx a ha;unfold zao at hx
  split at hx
  ·rw [Ky.1 hx] at ha;exact .inl ha
  ·cases hx
 | succ m ih =>
  intro left l x hx a ha;unfold zao at hx
  split at hx
  ·rw [Ky.1 hx] at ha;exact .inl ha
  ·obtain⟨b,hb,hx⟩:=List.mem_flatMap.1 hx
   split at hx
   ·rcases ih _ _ x hx a ha with h | h
    ·rcases QM.1 h with h | h
     ·exact .inl h
     ·rw [Ky.1 h];exact .inr hb
    ·refine .inr ?_;unfold els at h ⊢;rw [QN] at h ⊢;refine⟨h.1,?_⟩;have h2:=h.2;unfold jE at h2;rw [QX,bAT] at h2;exact h2.1
   ·cases hx
theorem zrc {r:RelD} {n:Nat} (hr:r.n=n) (hn:n<=64) {x:List Nat} (h:x∈zbq r) {a:Nat} (ha:a∈x):a<n:=by
 unfold zbq at h
 split at h
 ·rcases zrI _ _ _ x h a ha with h | h
  ·cases h
  ·rw [zaI,hr,zdO hn] at h;exact Uj.1 h
 ·cases h
abbrev crs (n:Nat):RelD:=zhw n 1 (jE (j7 n) 1)
theorem zqc:∀ n,n<=48->okR (crs n)=true:=by
 intro n hn;have h:(List.range 49).all (fun n=>okR (crs n))=true:=by kernel_rfl
 rw [Qg] at h;exact h n (Uj.2 (by omega))
theorem zdU (n:Int):j7 n<2^64:=zaH n
theorem znj (n:Nat):zJ (crs n).to:=fun i _=>by
 show (if i<n then (if Nat.testBit 1 i then jE (j7 n) 1&&&j7 n else 0) else 0)<2^64
 split
 ·split
  ·exact KC Qu (zdU n)
  ·decide
 ·decide
def zbJ (ws:List Nat) (o:List Nat):List Nat:=o.map fun k=>ws.getD k 0
theorem zq5 {ws o:List Nat} {i:Nat} (hi:i<o.length) (h:i<(zbJ ws (o.take i)++o.drop i).length):(zbJ ws (o.take i)++o.drop i)[i]=o[i]:=by
 have hl:(zbJ ws (o.take i)).length=i:=by unfold zbJ;rw [QI,Qr,QV (by omega)]
 have h2:(zbJ ws (o.take i)++o.drop i)[i]?=o[i]?:=by
  rw [Jm (by omega),hl,UK,Ku,UH]
 rw [gE h,gE hi] at h2;exact Ua h2
theorem zpf {ws o:List Nat} {i:Nat} (hi:i<o.length) (ho:o[i]<ws.length):(zbJ ws (o.take i)++o.drop i).set i ws[o[i]]=zbJ ws (o.take (i+1))++o.drop (i+1):=by
 have hl:(zbJ ws (o.take i)).length=i:=by unfold zbJ;rw [QI,Qr,QV (by omega)]
 rw [JO _ _ (by omega),hl,UK,<- JE hi,List.set_cons_zero,tsg hi];unfold zbJ;rw [QL,KL,Ux,List.map_nil,gDe,gE ho];rfl
section
variable {q:OA} {c:Nat} {ws:List Nat} {w:Wd}
theorem zpq (hl:SlR zC w q ws) (hn:ws.length<=48) (hT:Tz64M w) :
  Calls PG 78 #[.slice q ws.length c] w fun e w'=>(∃ (xs:List (List Nat×OA×Nat)) (p:OA) (c':Nat),e = .returned (.slice p xs.length c')/\xs.map (·.1)=zM ws/\OwnS jf 62 w.heap.size w' p c' xs/\∀ x∈xs,OwnS zC 3 w.heap.size w' x.2.1 x.2.2 x.1)/\Bw w w':=by
 refine qk 44 [.slice q ws.length c] (.s .p (.s .p (.c .p .p))) Tryz.func78 ?_;obtain⟨B,hB⟩:=nm (w.heap.size);refine⟨List (List Nat×OA×Nat)×OA×Nat,fun s=>⟨[(0,.slice q ws.length c),(4,.slice s.2.1 s.1.length s.2.2)],[]⟩,fun s X=>(zM ws=(s.1.map (·.1)).map (zbJ ws)/\AscB s.1/\s.1.length<=10000/\∀ x∈s.1,x.1.length<=64/\∀ a∈x.1,a<ws.length)/\OwnS jf 62 B X s.2.1 s.2.2 s.1/\(∀ x∈s.1,OwnS zC 3 B X x.2.1 x.2.2 x.1)/\Bw w X,?_,?_⟩
 ·refine cmo ziL ?_;rintro e _ ⟨rfl,rfl⟩;refine⟨_,zck (zaH _) (by decide:1<2^64),cmo (zsr (n:=ws.length) (a:=1) (b:=qP (zav ws.length) 1) hn (by decide) (zag (zaH _))) ?_⟩;rintro e X ⟨rfl,hbX⟩;refine cmo (zqC (r:=crs ws.length) (m:=10000) (znj _) (hT.below hbX) (UR _) (zqc _ hn)) ?_;rintro e Y ⟨⟨hm,xs,p,c',rfl,hxs,hasc,ho,hx⟩ | ⟨hm,rfl⟩,hbY⟩
  ·refine⟨(xs,p,c'),(cvE rfl rfl),⟨?_,hasc,?_,fun x hx=>?_⟩,ho.lower (by rw [hB];exact hbX.size),fun x h=>(hx x h).lower (by rw [hB];exact hbX.size),(zst hbX hbY)⟩
   ·show zM ws=(xs.map (·.1)).map (zbJ ws);rw [hxs];unfold zM;exact Gi hm
   ·show xs.length<=10000;rw [<- hxs,QI] at hm;exact hm
   ·have hmem:x.1∈zbq (crs ws.length):=(by rw [<- hxs];exact UF.2 ⟨x,hx,rfl⟩);exact⟨zmW hmem,fun a ha=>zrc rfl (by omega) hmem ha⟩
  ·refine⟨([],none,0),(cvE rfl rfl),⟨?_,List.Pairwise.nil,UU _,fun x hx=>(by cases hx)⟩,OwnS.nil,fun x hx=>(by cases hx),(zst hbX hbY)⟩;show zM ws=[];unfold zM;exact Gh (by show ¬ (zbq (crs ws.length)).length<=10000;omega)
 rintro⟨xs,p,c'⟩ X ⟨⟨hrk,hasc,hxl,hxx⟩,ho,hx,hbX⟩;dsimp only at hrk hasc hxl hxx ho hx ⊢;have hbs:=hbX.size;refine⟨Nat,fun k=>⟨[(0,.slice q ws.length c),(4,.slice p xs.length c'),(21,.slice p xs.length c'),(22,i64 xs.length),(23,i64 (k:Nat))],[]⟩,
  fun k Z=>k<=xs.length/\OwnS jf 62 B Z p c' xs/\(∀ x∈xs.take k,OwnS zC 3 B Z x.2.1 x.2.2 (zbJ ws x.1))/\(∀ x∈xs.drop k,OwnS zC 3 B Z x.2.1 x.2.2 x.1)/\Bw w Z,fun k=>xs.length-k,0,
  (cvE rfl rfl),⟨UU _,ho,fun x h=>(by rw [Uk] at h;cases h),fun x h=>hx x h,hbX⟩,?_⟩
 clear ho hx hbX hbs;rintro k Z ⟨hk,ho,htk,hdr,hbZ⟩;have hbs:=hbZ.size;refine biE (fun hc=>?_) fun hc=>?_
 ·have hc:(k:Int)<(xs.length:Int):=dT hc;have hkl:k<xs.length:=by omega
  obtain⟨x,hxk⟩:∃ x,xs[k]=x:=⟨_,rfl⟩;have hxm:x∈xs:=by rw [<- hxk];exact gM hkl
  obtain⟨hx64,hxa⟩:=hxx x hxm;have hsplit:xs=xs.take k++x::xs.drop (k+1):=by rw [<- hxk,JE,JP]
  have hdrop:xs.drop k=x::xs.drop (k+1):=by rw [<- hxk,JE]
  have hox:OwnS zC 3 B Z x.2.1 x.2.2 x.1:=hdr x (by rw [hdrop];simp);obtain⟨bp,op,hpe,hlp,hat⟩:=ho.row.at hkl;subst hpe;refine⟨k,rfl,hkl,.slice x.2.1 x.1.length x.2.2,by rw [<- hxk];exact zc (hat k hkl) (i:=0) rfl,?_⟩;refine⟨Nat,fun i=>⟨[(0,.slice q ws.length c),(4,.slice (some ⟨bp,op,none⟩) xs.length c'),(7,.slice x.2.1 x.1.length x.2.2),(21,.slice (some ⟨bp,op,none⟩) xs.length c'),(22,i64 xs.length),(23,i64 (k:Nat)),(27,.slice x.2.1 x.1.length x.2.2),(28,i64 x.1.length),(29,i64 (i:Nat))],[]⟩,
   fun i V=>i<=x.1.length/\OwnS zC 3 B V x.2.1 x.2.2 (zbJ ws (x.1.take i)++x.1.drop i)/\Z.grownBy V (x.2.1.map Addr.block),fun i=>x.1.length-i,0,
   (cvE rfl rfl),⟨UU _,hox,qg _ _⟩,?_⟩
  rintro i V ⟨hi,hoV,gV⟩;refine biE (fun hc=>?_) fun hc=>?_
  ·have hc:(i:Int)<(x.1.length:Int):=dT hc;have hil:i<x.1.length:=by omega
   have hlen:(zbJ ws (x.1.take i)++x.1.drop i).length=x.1.length:=by
    unfold zbJ;simp;omega
   have hgi:(zbJ ws (x.1.take i)++x.1.drop i)[i]'(by omega)=x.1[i]:=by
    exact zq5 hil (by omega)
   obtain⟨b',o',hqe,hlq,hat'⟩:=hoV.row.at (i:=i) (by omega);have hao:=hxa x.1[i] (gM hil);obtain⟨bw,ow,hwe,hlw,hatw⟩:=hl.at hao;subst hwe;have hq0:∃ g,x.2.1=some ⟨g,0,none⟩:=by
    rcases hoV.inv with ⟨h,_⟩ | ⟨g,cur,h,_⟩
    ·rw [h] at hqe;cases hqe
    ·exact⟨g,h⟩
   obtain⟨g,hg⟩:=hq0;have hbo:b'=g/\o'=0:=by rw [hg] at hqe;simpa using hqe.symm
   obtain⟨rfl,rfl⟩:=hbo;rw [hg] at hoV gV ⊢;have hBg:=(zx hoV rfl).1;refine⟨i,rfl,hil,i64 x.1[i],by have:=zc (hat' i (by omega)) (i:=0) (v:=i64 x.1[i]) (by rw [hgi];rfl);exact this,x.1[i],rfl,hao,?_⟩;have hVw:V.heap[bw]?=w.heap[bw]?:=(gV.block bw (by omega) (by have:B<=b':=hBg;simp;omega)).trans (hbZ.block bw hlw);refine⟨i64 ws[x.1[i]],zc (js hVw (hatw _ hao)) (i:=0) rfl,i,rfl,hil,zja (i:=i) (v:=ws[x.1[i]]) k3 rfl hoV (by omega) fun V' oV' gV'=>nxI (by omega) ⟨i+1,(cvE rfl rfl),⟨hil,?_,zd gV gV'⟩,zdc (by omega)⟩⟩;have e:(zbJ ws (x.1.take i)++x.1.drop i).set i ws[x.1[i]]=zbJ ws (x.1.take (i+1))++x.1.drop (i+1):=zpf hil hao;rw [e] at oV';exact oV'
  ·have hc:¬ (i:Int)<(x.1.length:Int):=dF hc;obtain rfl:i=x.1.length:=by omega
   rw [Qt,Qj,QF] at hoV;have keepI:∀ y:List Nat×OA×Nat,∀ l',OwnS zC 3 B Z y.2.1 y.2.2 l'->(∀ a b,x.2.1=some a->y.2.1=some b->a.block≠b.block)->OwnS zC 3 B V y.2.1 y.2.2 l':=fun y l' hy hne=>hy.same fun b hb=>gV.block _ (zx hy hb).2.1 (by
    intro e
    cases hx1:x.2.1 with
    | none=>rw [hx1] at e;cases e
    | some a =>
     rw [hx1] at e;simp only [QZ,KW] at e;exact hne a b hx1 hb e.symm)
   unfold AscB at hasc;rw [hsplit,List.pairwise_append,List.pairwise_cons] at hasc;obtain⟨_,⟨hA1,_⟩,hA2⟩:=hasc;refine nxI (by omega) ⟨k+1,(cvE rfl rfl),⟨hkl,?_,fun y hy=>?_,fun y hy=>?_,?_⟩,zdc (by omega)⟩
   ·refine ho.same fun a ha=>gV.block _ (zx ho ha).2.1 fun e=>?_
    cases hx1:x.2.1 with
    | none=>rw [hx1] at e;cases e
    | some a2 =>
     rw [hx1] at e;simp only [QZ,KW] at e;obtain⟨_,_,c1,h1⟩:=zx ho ha;obtain⟨_,_,c2,h2⟩:=zx hox hx1;rw [<- e,h1] at h2;simp at h2
   ·rw [tsg hkl,hxk] at hy;rcases QM.1 hy with hy | hy
    ·exact keepI y _ (htk y hy) fun a b ha hb e=>by
      have:=hA2 y hy x (by simp) b a hb ha;omega
    ·rw [Ky.1 hy];exact hoV
   ·exact keepI y _ (hdr y (by rw [hdrop];exact JW _ hy)) fun a b ha hb e=>by
     have:=hA1 y hy a b ha hb;omega
   ·cases hx1:x.2.1 with
    | none =>
     rw [hx1] at gV;exact hbZ.trans ⟨gV.os,gV.tape,gV.output,gV.size,fun j hj=>gV.block j (by omega) (fun e=>by cases e)⟩
    | some a =>
     rw [hx1] at gV;exact hbZ.trans (zk gV hbs (by have:=(zx hox hx1).1;omega))
 ·have hc:¬ (k:Int)<(xs.length:Int):=dF hc;obtain rfl:k=xs.length:=by omega
  rw [Qt] at htk;refine⟨⟨xs.map fun x=>(zbJ ws x.1,x.2),p,c',by rw [QI];rfl,?_,?_,fun y hy=>?_⟩,hbZ⟩
  ·rw [hrk,UD,UD];rfl
  ·rw [<- hB];have e1:(xs.map fun x=>(zbJ ws x.1,x.2)).flatMap jf.enc=xs.flatMap jf.enc:=by
    rw [Ql];congr 1;funext x;show [Value.slice x.2.1 (zbJ ws x.1).length x.2.2]=[Value.slice x.2.1 x.1.length x.2.2];unfold zbJ;rw [QI]
   unfold OwnS at ho ⊢;rw [e1,QI];exact ho
  ·obtain⟨x,hx,rfl⟩:=UF.1 hy;rw [<- hB];exact htk x hx
end
def exC (x:ExD) (q:OA) (c:Nat):List Value := .slice q x.ev.length c::(zf x.po++(zf x.rf++(zf x.co++(zf x.dt++(zf x.ct++(zf x.rm++(seg 32 (fun i=>u8 (x.regs i))++seg 6 (fun i=>u8 (x.mem i)))))))))
theorem zD (x:ExD) (q:OA) (c:Nat):(exC x q c).length=333:=by
 unfold exC;simp only [Qp,lap,zg,zG]
theorem za0 (x:ExD) (q:OA) (c:Nat):(exC x q c).all Value.oneCell'=true:=by
 unfold exC;rw [Uv,QE,QE,QE,QE,QE,QE,QE,zE,zE,zE,zE,zE,zE,zbB fun _=>rfl,zbB fun _=>rfl];rfl
section
variable (x:ExD) (q:OA) (c:Nat) (S:List Value)
theorem znb:∃ A Z,A.length=1/\∀ r,exC { x with po:=r } q c++S=A++(zf r++Z) :=
 ⟨.slice q x.ev.length c::[],(zf x.rf++(zf x.co++(zf x.dt++(zf x.ct++(zf x.rm++(seg 32 (fun i=>u8 (x.regs i))++(seg 6 (fun i=>u8 (x.mem i))++S))))))),by simp only [Qp,QJ,lap,zg],fun r=>by simp only [exC,KL,Qi,QO]⟩
theorem zsC:∃ A Z,A.length=50/\∀ r,exC { x with rf:=r } q c++S=A++(zf r++Z) :=
 ⟨.slice q x.ev.length c::zf x.po,(zf x.co++(zf x.dt++(zf x.ct++(zf x.rm++(seg 32 (fun i=>u8 (x.regs i))++(seg 6 (fun i=>u8 (x.mem i))++S)))))),by simp only [Qp,QJ,lap,zg],fun r=>by simp only [exC,KL,Qi,QO]⟩
theorem zsE:∃ A Z,A.length=99/\∀ r,exC { x with co:=r } q c++S=A++(zf r++Z) :=
 ⟨.slice q x.ev.length c::(zf x.po++zf x.rf),(zf x.dt++(zf x.ct++(zf x.rm++(seg 32 (fun i=>u8 (x.regs i))++(seg 6 (fun i=>u8 (x.mem i))++S))))),by simp only [Qp,QJ,lap,zg],fun r=>by simp only [exC,KL,Qi,QO]⟩
theorem znc:∃ A Z,A.length=148/\∀ r,exC { x with dt:=r } q c++S=A++(zf r++Z) :=
 ⟨.slice q x.ev.length c::(zf x.po++(zf x.rf++zf x.co)),(zf x.ct++(zf x.rm++(seg 32 (fun i=>u8 (x.regs i))++(seg 6 (fun i=>u8 (x.mem i))++S)))),by simp only [Qp,QJ,lap,zg],fun r=>by simp only [exC,KL,Qi,QO]⟩
theorem znd:∃ A Z,A.length=197/\∀ r,exC { x with ct:=r } q c++S=A++(zf r++Z) :=
 ⟨.slice q x.ev.length c::(zf x.po++(zf x.rf++(zf x.co++zf x.dt))),(zf x.rm++(seg 32 (fun i=>u8 (x.regs i))++(seg 6 (fun i=>u8 (x.mem i))++S))),by simp only [Qp,QJ,lap,zg],fun r=>by simp only [exC,KL,Qi,QO]⟩
theorem zm9:∃ A Z,A.length=246/\∀ r,exC { x with rm:=r } q c++S=A++(zf r++Z) :=
 ⟨.slice q x.ev.length c::(zf x.po++(zf x.rf++(zf x.co++(zf x.dt++zf x.ct)))),(seg 32 (fun i=>u8 (x.regs i))++(seg 6 (fun i=>u8 (x.mem i))++S)),by simp only [Qp,QJ,lap,zg],fun r=>by simp only [exC,KL,Qi,QO]⟩
theorem zna:∃ A Z,A.length=295/\∀ f,exC { x with regs:=f } q c++S=A++(seg 32 (fun i=>u8 (f i))++Z) :=
 ⟨.slice q x.ev.length c::(zf x.po++(zf x.rf++(zf x.co++(zf x.dt++(zf x.ct++zf x.rm))))),(seg 6 (fun i=>u8 (x.mem i))++S),by simp only [Qp,lap,zg],fun f=>by simp only [exC,KL,Qi,QO]⟩
theorem zpX:∃ A Z,A.length=327/\∀ f,exC { x with mem:=f } q c++S=A++(seg 6 (fun i=>u8 (f i))++Z) :=
 ⟨.slice q x.ev.length c::(zf x.po++(zf x.rf++(zf x.co++(zf x.dt++(zf x.ct++(zf x.rm++seg 32 (fun i=>u8 (x.regs i)))))))),S,by simp only [Qp,lap,zg,zG],fun f=>by simp only [exC,KL,Qi,QO]⟩
theorem zsD (l:List Ev) (q':OA) (c':Nat):(exC x q c++S).set 0 (.slice q' l.length c')=exC { x with ev:=l } q' c'++S:=by
 unfold exC;rw [Qi,List.set_cons_zero,Qi]
theorem zto:(exC x q c++S)[0]?=some (.slice q x.ev.length c):=rfl
end
theorem zgc {x:ExD} {q:OA} {c:Nat} {S:List Value} {i:Nat} {v:Value} (h:S[i]?=some v):(exC x q c++S)[333+i]?=some v:=by
 rw [qW (zD _ _ _)];exact h
theorem zjg {x:ExD} {q:OA} {c:Nat} {S:List Value} {i:Nat} {v:Value}:(exC x q c++S).set (333+i) v=exC x q c++S.set i v:=qC (zD _ _ _)
abbrev zaP:=List Nat×OA×Nat
abbrev slV (x:zaP):Value := .slice x.2.1 x.1.length x.2.2
def zdW (l:List zaP):List Value:=l.map slV
theorem zfm:∀ l:List zaP,l.flatMap jf.enc=zdW l
 | []=>rfl
 | a::l=>by
  show slV a::l.flatMap jf.enc=slV a::zdW l;rw [zfm l]
abbrev RowLH (Z:Wd) (g:Nat) (l:List zaP):Prop:=Z.heap[g]?=some (.cells (zdW l).toArray 62 (0,0))
theorem RowLH.sl {Z:Wd} {g:Nat} {l:List zaP} (h:RowLH Z g l):SlR jf Z (some ⟨g,0,none⟩) l :=
 SlR.of_cells (hlt h) (by rw [zfm];exact za h)
theorem RowLH.own {Z:Wd} {g B:Nat} {l:List zaP} (h:RowLH Z g l) (hB:B<=g) (hm:l.length<=maxLen):OwnS jf 62 B Z (some ⟨g,0,none⟩) l.length l:=by
 unfold OwnS World.ownsRow;have hz:(zdW l).length=l.length:=by unfold zdW;rw [QI]
 refine⟨by rw [qu],.inr ⟨g,l.length,(zdW l).toArray,rfl,hB,h,UR _,hm,?_,?_⟩⟩
 ·show (zdW l).length=l.length*1;rw [hz,US]
 ·show (zdW l).take (l.length*1)=_;rw [zfm,JF (by rw [hz,US];exact UR _)]
structure Rows (B:Nat) (Z:Wd) (W:List zaP):Prop where
 own:∀ x∈W,OwnS zC 3 B Z x.2.1 x.2.2 x.1
 dis:∀ (i j:Nat) (x y:zaP),W[i]?=some x->W[j]?=some y->i≠j->∀ a b,x.2.1=some a->y.2.1=some b->a.block≠b.block
theorem Rows.same {B:Nat} {Z Y:Wd} {W:List zaP} (h:Rows B Z W) (hs:∀ x∈W,∀ a,x.2.1=some a->Y.heap[a.block]?=Z.heap[a.block]?):Rows B Y W :=
 ⟨fun x hx=>(h.own x hx).same (hs x hx),h.dis⟩
theorem Rows.nils (B:Nat) (Z:Wd) (n:Nat):Rows B Z (List.replicate n ([],none,0)):=by
 refine⟨fun x hx=>?_,fun i j x y hx hy _ a b ha _=>?_⟩
 ·rw [Jt hx];exact OwnS.nil
 ·have:=JY hx;rw [Jt this] at ha
  cases ha
theorem Rows.set {B:Nat} {Z Y:Wd} {W:List zaP} {i:Nat} {x y:zaP} (h:Rows B Z W) (hi:W[i]?=some x) (ho:OwnS zC 3 B Y y.2.1 y.2.2 y.1) (hg:Z.grownBy Y (x.2.1.map Addr.block)) (hat:∀ a,y.2.1=some a->x.2.1=some a\/Z.heap.size<=a.block):Rows B Y (W.set i y):=by
 obtain⟨hil,hxi⟩:=Jr.1 hi;have ne:∀ (j:Nat) (z:zaP),W[j]?=some z->i≠j->∀ b,z.2.1=some b->Y.heap[b.block]?=Z.heap[b.block]?:=fun j z hj hne b hb=>by
  refine hg.block _ (zx (h.own z (JY hj)) hb).2.1 fun e=>?_
  cases hx1:x.2.1 with
  | none=>rw [hx1] at e;cases e
  | some a =>
   rw [hx1] at e;simp only [QZ,KW] at e;exact h.dis i j x z hi hj hne a b hx1 hb e.symm
 have inv:∀ (j:Nat) (z:zaP),(W.set i y)[j]?=some z->(i=j/\z=y)\/(i≠j/\W[j]?=some z):=fun j z hj=>by
  by_cases e:i=j
  ·subst e;rw [JD hil] at hj;exact .inl ⟨rfl,(Ua hj).symm⟩
  ·rw [JU e] at hj;exact .inr ⟨e,hj⟩
 refine⟨fun z hz=>?_,fun j k u v hu hv hjk a b ha hb=>?_⟩
 ·obtain⟨j,hj⟩:=List.mem_iff_getElem?.1 hz;rcases inv j z hj with ⟨_,rfl⟩ | ⟨hne,hj⟩
  ·exact ho
  ·exact (h.own z (JY hj)).same (ne j z hj hne)
 ·rcases inv j u hu with ⟨e1,rfl⟩ | ⟨n1,hu'⟩ <;> rcases inv k v hv with ⟨e2,rfl⟩ | ⟨n2,hv'⟩
  ·omega
  ·rcases hat a ha with h1 | h1
   ·exact h.dis i k x v hi hv' n2 a b h1 hb
   ·have:=(zx (h.own v (JY hv')) hb).2.1;omega
  ·rcases hat b hb with h1 | h1
   ·exact h.dis j i u x hu' hi (fun e=>n1 e.symm) a b ha h1
   ·have:=(zx (h.own u (JY hu')) ha).2.1;omega
  ·exact h.dis j k u v hu' hv' hjk a b ha hb
end Go.Proofs.YtkpaomeeknegpaaGreatDoor
namespace Go.Vc
open Go.RowKit
def DrawA (S:Sig) (ops:Array Oper) (E:Env) (w:Wd) (K:Env->Wd->Prop) (QP:List PanicEntry->Wd->Prop):Prop :=
 ∃ (X:List Nat) (T:OT),(zkZ (zcO S.τ X ops) ops ops.size (Array.replicate ops.size false) T&&ops.all (fun o=>jM o.op))=true/\zgQ S ops.toList X QP T E w.drew K
inductive Mn where
 | m (m:Mk)
 | s (a b:Mn)
 | c (a b:Mn)
 | d (a b:Mn)
 | t
 | i
section
variable {S:Sig}
def zkY (rec_:Array Bool->OT->Bool) (ind:Nat->Nat->Bool) (ops:Array Oper) (listed:Array Bool) (T:OT):Bool :=
 !(Region.ready .any ops listed).isEmpty&&(Region.ready .any ops listed).all fun i =>
   (OT.firsts ind i T).any fun T'=>rec_ (listed.setIfInBounds i true) T'
def zfZ (ind:Nat->Nat->Bool) (ops:Array Oper):Nat->Array Bool->OT->Bool
 | 0,listed,T=>(Region.ready .any ops listed).isEmpty&&(match T with | .nil=>true | _=>false)
 | m+1,listed,.op k T'=>(match (Region.ready .any ops listed).contains k&&zeO ind ops k listed with
  | true=>zfZ ind ops m (listed.setIfInBounds k true) T'
  | false=>zkY (zfZ ind ops m) ind ops listed (.op k T'))
 | m+1,listed,.nil=>zkY (zfZ ind ops m) ind ops listed .nil
 | m+1,listed,.alt x y=>zkY (zfZ ind ops m) ind ops listed (.alt x y)
section
variable {ind:Nat->Nat->Bool} {ops:Array Oper}
theorem zbd {rec_:Array Bool->OT->Bool} {L:Array Bool} {T:OT} (h:zkY rec_ ind ops L T=true):(Region.ready .any ops L).isEmpty=false/\∀ i∈Region.ready .any ops L,∃ T',T'∈OT.firsts ind i T/\rec_ (L.setIfInBounds i true) T'=true:=by
 simp only [zkY,bAT,KG,Qg,Qh] at h;exact⟨h.1,fun i hi=>h.2 i hi⟩
theorem zoq:∀ (m:Nat) (L:Array Bool) (T:OT),zeo ops L->zfZ ind ops (m+1) L T=true ->
  (Region.ready .any ops L).isEmpty=false/\∀ i∈Region.ready .any ops L,∃ T',T'∈OT.firsts ind i T/\zfZ ind ops m (L.setIfInBounds i true) T'=true:=by
 intro m
 induction m with
 | zero =>
  intro L T hc h
  cases T with
  | nil=>exact zbd h
  | alt x y=>exact zbd h
  | op k T' =>
   simp only [zfZ] at h
   split at h
   ·rename_i hf;simp only [bAT,JT,dE] at hf;refine⟨Js.2 (Kz hf.1),fun i hi=>?_⟩;by_cases e:i=k
    ·subst e;exact⟨T',by simp [OT.firsts],h⟩
    ·have:=za9 hi e;simp only [bAT,Qo] at h;rw [h.1] at this;cases this
   ·exact zbd h
 | succ m ih =>
  intro L T hc h
  cases T with
  | nil=>exact zbd h
  | alt x y=>exact zbd h
  | op k T' =>
   unfold zfZ at h
   split at h
   ·rename_i hf;simp only [bAT,JT,dE] at hf;refine⟨Js.2 (Kz hf.1),fun i hi=>?_⟩;by_cases e:i=k
    ·subst e;exact⟨T',by simp [OT.firsts],h⟩
    ·obtain⟨T'',h1,h2⟩:=(ih _ T' (zcT hc hf.1) h).2 i (za9 hi e);refine⟨.op k T'',?_,?_⟩
     ·have:¬ k=i:=fun e2=>e e2.symm;rw [OT.firsts,Gh this,Gi (zkK hc hf.2 hf.1 hi e)];exact Kj h1
     ·have hk2:k∈Region.ready .any ops (L.setIfInBounds i true):=za9 hf.1 (fun e2=>e e2.symm);have hb:((Region.ready .any ops (L.setIfInBounds i true)).contains k&&zeO ind ops k (L.setIfInBounds i true))=true:=by
       simp only [bAT,JT,dE];exact⟨hk2,zhl hf.2⟩
      unfold zfZ;rw [hb];rw [zjV];exact h2
   ·exact zbd h
theorem zfx:∀ (m:Nat) (L:Array Bool) (T:OT),zeo ops L->zfZ ind ops m L T=true->zkZ ind ops m L T=true
 | 0,L,T,_,h=>h
 | m+1,L,T,hc,h=>by
  obtain⟨h1,h2⟩:=zoq m L T hc h;simp only [zkZ,bAT,KG,Qg,Qh];refine⟨h1,fun i hi=>?_⟩;obtain⟨T',h3,h4⟩:=h2 i hi;exact⟨T',h3,zfx m _ T' (zcT hc hi) h4⟩
end
theorem DrawA.treeR {S:Sig} {ops:Array Oper} {E:Env} {w:Wd} {K:Env->Wd->Prop} {QP:List PanicEntry->Wd->Prop} (X:List Nat) (T:OT)
  (h:(zfZ (zcO S.τ X ops) ops ops.size (Array.replicate ops.size false) T&&ops.all (fun o=>jM o.op))=true) (k:zgQ S ops.toList X QP T E w.drew K):DrawA S ops E w K QP :=
 ⟨X,T,by
  simp only [bAT] at h ⊢;refine⟨zfx _ _ _ (fun j o hj=>?_) h.1,h.2⟩;by_cases hl:j<ops.size <;> simp [hl] at hj,k⟩
theorem DrawE.treeR {S:Sig} {ops:Array Oper} {E:Env} {w:Wd} {K:Env->Wd->Prop} {QP:List PanicEntry->Wd->Prop} (X:List Nat) (T:OT)
  (h:(zfZ (zcO S.τ X ops) ops ops.size (Array.replicate ops.size false) T&&ops.all (fun o=>jM o.op))=true) (k:zgQ S ops.toList X QP T E w.drew K):DrawE S ops E w K QP :=
 .inr (.inr ⟨X,T,by
  simp only [bAT] at h ⊢;refine⟨zfx _ _ _ (fun j o hj=>?_) h.1,h.2⟩;by_cases hl:j<ops.size <;> simp [hl] at hj,k⟩)
end
end Go.Vc
