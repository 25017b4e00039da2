/- Contracts of functions, and plain facts, for the law that the last text of this claim proves. -/
import Derived.Test.YtkpaomeeknegpaaGreatDoorQ2
import Derived.Test.YtkpaomeeknegpaaGreatDoorQ1
import Derived.Laws.StructEq
import Derived.ChangeKeysEq
set_option linter.unusedSimpArgs false
set_option linter.unusedVariables false
namespace Go.Proofs.YtkpaomeeknegpaaGreatDoor
open Go.Vc Go.RowKit Go.Sei
theorem zbM {p:UInt8->Bool} {s:List UInt8} {k:Nat} (h:k<s.length):j3 p (s.drop k)=if p s[k] then j3 p (s.drop (k+1))+1 else 0:=by
 rw [Jq h];rfl
theorem zgz {p:UInt8->Bool} {s:List UInt8} {k:Nat} (h:s.length<=k):j3 p (s.drop k)=0:=by
 rw [JB h];rfl
theorem zk5 {p:UInt8->Bool} (s:List UInt8) (k:Nat) (h:k<=s.length):k+j3 p (s.drop k)<=s.length:=by
 have:=zks p (s.drop k);rw [Qs] at this;omega
theorem zca {a b:Nat}:decide ((a:Int)=(b:Int))=decide (a=b):=by rw [QE];omega
theorem zcL {s:List UInt8} {k:Nat} (h:k<s.length):(bs s).data.toList[k]?=some s[k]:=by
 show s[k]?=_;exact gE h
theorem zjC {g a:Nat} {s:List UInt8} {w:Wd} (h:zK w ⟨g,0,none⟩ [qG s,i64 a]) :
  CB 185 #[At0 g] w (.bool (decide (s.length<=a))):=by
 refine zI 13 [At0 g] Tryz.func185 ?_;refine DrawE.ord [] [0,1,2,3,4,5,6,7,8,9,10] (by kernel_rfl) ?_;have h:zK w.drew ⟨g,0,none⟩ [qG s,i64 a]:=jy rfl h;refine⟨_,zc h (i:=1) rfl,_,zc h (i:=0) rfl,rb ?_,(Ga _ _).drew⟩;show decide ((s.length:Int)<=(a:Int))=_;rw [QE];omega
theorem znK {g a:Nat} {s:List UInt8} {w:Wd} (h:zK w ⟨g,0,none⟩ [qG s,i64 a]) (hg:g<w.heap.size) :
  CB 183 #[At0 g] w (.bool (zag s a)):=by
 refine zI 18 [At0 g] Tryz.func183 ?_;refine DrawE.ord [] [0,1,2,3,4,5,6,7,8,9,10,11,12,13,14,15] (by kernel_rfl) ?_;have h:zK w.drew ⟨g,0,none⟩ [qG s,i64 a]:=jy rfl h;refine cmo (zjC h) ?_;rintro e V ⟨rfl,hb⟩;refine⟨hb,?_⟩;have hw:=(Ga w.heap.size w).drew.trans hb;have hV:=zU hb hg h;refine biE (fun ho=>?_) fun ho=>?_
 ·have ho:s.length<=a:=dT ho;have:zag s a=true:=by unfold zag;rw [JJ ho]
  exact⟨rb this.symm,hw⟩
 ·have ho:¬ s.length<=a:=dF ho;have hl:a<s.length:=by omega
  refine⟨_,zc hV (i:=0) rfl,_,zc hV (i:=1) rfl,a,rfl,hl,s[a],zcL hl,cmo (zac _ _) ?_⟩;rintro e _ ⟨rfl,rfl⟩;refine⟨Ga _ _,?_⟩;have:zag s a=decide (ql s[a]=2):=by unfold zag;rw [gE hl]
  exact⟨rb (by rw [this];exact zca),hw⟩
theorem znT {g a:Nat} {s:List UInt8} {w:Wd} (h:zK w ⟨g,0,none⟩ [qG s,i64 a]) (ha:a<s.length) (hs:s.length<=140737488351232) :
  Calls PG 196 #[At0 g] w fun e w'=>e = .returned (i64 (a+1+j3 qJ (s.drop (a+1)):Nat))/\w=w':=by
 refine zI 28 [At0 g] Tryz.func196 ?_;refine⟨_,zc h (i:=1) rfl,(a+1:Nat),(ze (by omega)).trans (by omega),Nat,fun k=>⟨[(0,At0 g),(3,.int .i64 (k:Nat))],[]⟩,fun k X=>k<=s.length/\k+j3 qJ (s.drop k)=a+1+j3 qJ (s.drop (a+1))/\w=X,fun k=>s.length-k,a+1,(cvE rfl rfl),⟨ha,rfl,rfl⟩,?_⟩;rintro k _ ⟨hk,he,rfl⟩;dsimp only at hk he ⊢;refine⟨_,zc h (i:=0) rfl,biE (fun hc=>?_) fun hc=>?_⟩
 ·have hc:(k:Int)<(s.length:Int):=dT hc;have hl:k<s.length:=by omega
  refine⟨_,zc h (i:=0) rfl,k,rfl,hl,s[k],zcL hl,cmo (zk4 _ _) ?_⟩;rintro e _ ⟨rfl,rfl⟩;refine biE (fun hi=>?_) fun hi=>?_
  ·refine⟨(k+1:Nat),(ze (by omega)).trans (by omega),k+1,(cvE rfl rfl),⟨hl,?_,rfl⟩,zdc (by omega)⟩;rw [zbM hl,Gn hi] at he;omega
  ·have hi:¬ qJ s[k]=true:=by rw [Qh];exact hi
   rw [zbM hl,Gm hi] at he;exact⟨by rw [<- he];rfl,rfl⟩
 ·have hc:¬ (k:Int)<(s.length:Int):=dF hc;refine Gf (fun h=>by cases h) (fun _=>?_);rw [zgz (by omega)] at he;exact⟨by rw [<- he];rfl,rfl⟩
theorem zkQ {g a:Nat} {s:List UInt8} {w:Wd} (h:zK w ⟨g,0,none⟩ [qG s,i64 a]) (ha:a<s.length) (hs:s.length<=140737488351232) :
  Calls PG 197 #[At0 g] w fun e w'=>e = .returned (i64 (a+1+j3 zbu (s.drop (a+1)):Nat))/\w=w':=by
 refine zI 29 [At0 g] Tryz.func197 ?_;refine⟨_,zc h (i:=1) rfl,(a+1:Nat),(ze (by omega)).trans (by omega),Nat,fun k=>⟨[(0,At0 g),(3,.int .i64 (k:Nat))],[]⟩,fun k X=>k<=s.length/\k+j3 zbu (s.drop k)=a+1+j3 zbu (s.drop (a+1))/\w=X,fun k=>s.length-k,a+1,(cvE rfl rfl),⟨ha,rfl,rfl⟩,?_⟩;rintro k _ ⟨hk,he,rfl⟩;dsimp only at hk he ⊢;refine⟨_,zc h (i:=0) rfl,biE (fun hc=>?_) fun hc=>?_⟩
 ·have hc:(k:Int)<(s.length:Int):=dT hc;have hl:k<s.length:=by omega
  refine⟨_,zc h (i:=0) rfl,k,rfl,hl,s[k],zcL hl,cmo (zac _ _) ?_⟩;rintro e _ ⟨rfl,rfl⟩;have hd:decide ((ql s[k]:Int)=4)=zbu s[k]:=zca (b:=4);refine biE (fun hi=>?_) fun hi=>?_
  ·refine⟨(k+1:Nat),(ze (by omega)).trans (by omega),k+1,(cvE rfl rfl),⟨hl,?_,rfl⟩,zdc (by omega)⟩;rw [zbM hl,Gn (hd.symm.trans hi)] at he;omega
  ·have hi:¬ zbu s[k]=true:=by rw [Qh];exact hd.symm.trans hi
   rw [zbM hl,Gm hi] at he;exact⟨by rw [<- he];rfl,rfl⟩
 ·have hc:¬ (k:Int)<(s.length:Int):=dF hc;refine Gf (fun h=>by cases h) (fun _=>?_);rw [zgz (by omega)] at he;exact⟨by rw [<- he];rfl,rfl⟩
def zgW (s:List UInt8) (a:Nat) (c:UInt8):Nat:=if (eqB c 61||eqB c 33)&&decide (s[a+1]?=some 61) then a+2 else a+1
theorem zn2 {g a:Nat} {s:List UInt8} {w:Wd} (h:zK w ⟨g,0,none⟩ [qG s,i64 a]) (ha:a<s.length) (hs:s.length<=140737488351232) :
  CB 195 #[At0 g] w (i64 (zgW s a s[a])):=by
 refine qA 46 [At0 g] (.s .p (.s .p (.s .p (.c .p .p)))) Tryz.func195 ?_;refine⟨_,zc h (i:=1) rfl,(a+1:Nat),(ze (by omega)).trans (by omega),DrawE.ord [] [0,1,2,3,4,5,6,7,8,9] (by kernel_rfl) ?_⟩;have hd:zK w.drew ⟨g,0,none⟩ [qG s,i64 a]:=jy rfl h;refine⟨_,zc hd (i:=0) rfl,_,zc hd (i:=1) rfl,a,rfl,ha,s[a],zcL ha,Unit,fun _=>⟨[(3,i64 (zgW s a s[a]))],[]⟩,fun _ X=>X=w.drew,?_,?_⟩
 ·have no:((eqB s[a] 61||eqB s[a] 33)&&decide (s[a+1]?=some 61))=false->∃ _:Unit,some (Value.int .i64 ((a+1:Nat):Int))=some (i64 (zgW s a s[a])):=fun hf=>⟨(),by unfold zgW;rw [hf];rfl⟩;refine biE (fun h1=>?_) fun h1=>?_
  ·have he:(eqB s[a] 61||eqB s[a] 33)=true:=by
    have:eqB s[a] 61=true:=h1;rw [this];rfl
   refine brT ⟨_,zc hd (i:=0) rfl,biE (fun h2=>?_) fun h2=>?_⟩
   ·have h2:((a+1:Nat):Int)<(s.length:Int):=dT h2;have hl:a+1<s.length:=(by omega);refine⟨_,zc hd (i:=0) rfl,a+1,rfl,hl,s[a+1],zcL hl,biE (fun h3=>?_) fun h3=>?_⟩
    ·refine⟨(a+2:Nat),(ze (by omega)).trans (by omega),(),⟨.cons ?_ .nil,rfl⟩,rfl⟩;have h61:s[a+1]=61:=by
      apply Ue.1;have:((s[a+1].toNat:Nat):Int)=61:=dT h3;have h6:(61:UInt8).toNat=61:=rfl;omega
     unfold zgW;rw [he,gE hl,h61];rfl
    ·obtain⟨_,e⟩:=no (by
      have h61:¬ s[a+1]=61:=fun e=>by rw [e] at h3;cases h3
      rw [gE hl,Uf (by simpa using h61),Ug])
     exact⟨(),⟨.cons e .nil,rfl⟩,rfl⟩
   ·have h2:¬ ((a+1:Nat):Int)<(s.length:Int):=dF h2;refine brF ?_;obtain⟨_,e⟩:=no (by rw [JJ (by omega)];simp);exact⟨(),⟨.cons e .nil,rfl⟩,rfl⟩
  ·have h1:eqB s[a] 61=false:=h1;refine biE (fun h1b=>?_) fun h1b=>?_
   ·have he:(eqB s[a] 61||eqB s[a] 33)=true:=by
     have:eqB s[a] 33=true:=h1b;rw [this,Bool.or_true]
    refine⟨_,zc hd (i:=0) rfl,biE (fun h2=>?_) fun h2=>?_⟩
    ·have h2:((a+1:Nat):Int)<(s.length:Int):=dT h2;have hl:a+1<s.length:=(by omega);refine⟨_,zc hd (i:=0) rfl,a+1,rfl,hl,s[a+1],zcL hl,biE (fun h3=>?_) fun h3=>?_⟩
     ·refine⟨(a+2:Nat),(ze (by omega)).trans (by omega),(),⟨.cons ?_ .nil,rfl⟩,rfl⟩;have h61:s[a+1]=61:=by
       apply Ue.1;have:((s[a+1].toNat:Nat):Int)=61:=dT h3;have h6:(61:UInt8).toNat=61:=rfl;omega
      unfold zgW;rw [he,gE hl,h61];rfl
     ·obtain⟨_,e⟩:=no (by
       have h61:¬ s[a+1]=61:=fun e=>by rw [e] at h3;cases h3
       rw [gE hl,Uf (by simpa using h61),Ug])
      exact⟨(),⟨.cons e .nil,rfl⟩,rfl⟩
    ·have h2:¬ ((a+1:Nat):Int)<(s.length:Int):=dF h2;refine brF ?_;obtain⟨_,e⟩:=no (by rw [JJ (by omega)];simp);exact⟨(),⟨.cons e .nil,rfl⟩,rfl⟩
   ·have h1b:eqB s[a] 33=false:=h1b;refine brF (brF ?_);obtain⟨_,e⟩:=no (by rw [h1,h1b];rfl);exact⟨(),⟨.cons e .nil,rfl⟩,rfl⟩
 rintro _ _ rfl;exact⟨rfl,(Ga _ _).drew⟩
def ScV (X:Wd) (g:Nat) (s:List UInt8) (a:Nat) (op:Bool):Prop:=X.heap[g]?=some (.cells #[qG s,i64 a,.bool op] 214 (0,0))
theorem ScV.cells {X:Wd} {g a:Nat} {s:List UInt8} {op:Bool} (h:ScV X g s a op):zK X ⟨g,0,none⟩ [qG s,i64 a]:=by
 have:=qK (o:=0) (n:=2) h;exact this
theorem ScV.below {X Y:Wd} {g a:Nat} {s:List UInt8} {op:Bool} (h:ScV X g s a op) (hb:Bw X Y):ScV Y g s a op:=zb hb h
theorem zgF {a b c:Wd} {g:Nat} (h:a.grownBy b (some g)) (k:Bw b c):a.grownBy c (some g):=zd h (zi k)
theorem zfE {X:Wd} {g a:Nat} {s:List UInt8} {op:Bool} (h:ScV X g s a op) (v:Nat) {K:Wd->Prop} (k:∀ Y,ScV Y g s v op->X.grownBy Y (some g)->Y.heap.size=X.heap.size->K Y) :
  SatR ((storeVar 3 ⟨g,1,none⟩ (i64 v)).run PG X) fun _ w'=>K w' :=
 jg k3 rfl h (o:=1) (by show 1<3;omega) (v:=i64 v) rfl rfl fun Y fY gY sY=>k Y fY gY sY
theorem zkG {X:Wd} {g a:Nat} {s:List UInt8} {op:Bool} (h:ScV X g s a op) (v:Bool) {K:Wd->Prop} (k:∀ Y,ScV Y g s a v->X.grownBy Y (some g)->Y.heap.size=X.heap.size->K Y) :
  SatR ((storeVar 4 ⟨g,2,none⟩ (.bool v)).run PG X) fun _ w'=>K w' :=
 jg k4 rfl h (o:=2) (by show 2<3;omega) (v := .bool v) rfl rfl fun Y fY gY sY=>k Y fY gY sY
theorem zcO {s:List UInt8} {k:Nat} (h:k<s.length):zag s k=decide (ql s[k]=2):=by unfold zag;rw [gE h]
theorem zh4 {s:List UInt8} {k:Nat} (h:s.length<=k):zag s k=true:=by unfold zag;rw [JJ h]
theorem ztm {g a:Nat} {s:List UInt8} {op:Bool} {w:Wd} (h:ScV w g s a op) (ha:a<=s.length) (hs:s.length<=140737488351232) :
  Calls PG 182 #[At0 g] w fun e w'=>(∃ v,e = .returned v)/\ScV w' g s (zL s a) op/\w.grownBy w' (some g):=by
 refine qA 50 [At0 g] (.c .p (.c .p .p)) Tryz.func182 ?_;obtain⟨b,hb⟩:=nm (zcf s a);have hbl:b<=s.length:=by rw [hb];exact zk5 s a ha
 refine⟨Unit,fun _=>⟨[(0,At0 g)],[]⟩,fun _ X=>ScV X g s b op/\w.grownBy X (some g),?_,?_⟩
 ·refine⟨Nat,fun k=>⟨[(0,At0 g)],[]⟩,fun k X=>k<=s.length/\k+j3 zjV (s.drop k)=b/\ScV X g s k op/\w.grownBy X (some g),fun k=>s.length-k,a,(cvE rfl rfl),⟨ha,hb.symm,h,qo _ _⟩,?_⟩;rintro k X ⟨hk,he,hX,hg⟩;dsimp only at hk he ⊢;refine DrawE.ord [] [0,1,2,3,4,5,6,7,8,9,10,11,12,13,14,15] (by kernel_rfl) ?_;have hXd:ScV X.drew g s k op:=hX;refine cmo (zjC hXd.cells) ?_;rintro e Y ⟨rfl,hbY⟩;refine⟨hbY,?_⟩;have hY:=hXd.below hbY;have gY:w.grownBy Y (some g):=zd hg (zi ((Ga _ X).drew.trans hbY));refine biE (fun ho=>?_) fun ho=>?_
  ·have ho:s.length > k:=by
    have:(!decide (s.length<=k))=true:=ho;simpa using this
   refine⟨_,zc hY.cells (i:=0) rfl,_,zc hY.cells (i:=1) rfl,k,rfl,ho,s[k],zcL ho,cmo (zac _ _) ?_⟩;rintro e _ ⟨rfl,rfl⟩;refine⟨Ga _ _,?_⟩;have hd:decide ((ql s[k]:Int)=1)=zjV s[k]:=zca (b:=1);rw [zbM ho] at he;refine biE (fun hi=>?_) fun hi=>?_
   ·rw [Gn (hd.symm.trans hi)] at he;exact⟨_,zc hY.cells (i:=1) rfl,(k+1:Nat),(ze (by omega)).trans (by omega),zfE hY (k+1) fun Z hZ gZ sZ=>⟨k+1,(cvE rfl rfl),⟨ho,by omega,hZ,zd gY gZ⟩,zdc (by omega)⟩⟩
   ·have hi:¬ zjV s[k]=true:=(by rw [Qh];exact hd.symm.trans hi);rw [Gm hi] at he;exact⟨(),(cvE rfl rfl),by rw [<- he];exact hY,gY⟩
  ·have ho:s.length<=k:=by
    have:(!decide (s.length<=k))=false:=ho;simpa using this
   refine brF ?_;rw [zgz ho] at he;exact⟨(),(cvE rfl rfl),by rw [<- he];exact hY,gY⟩
 clear h;rintro _ X ⟨hX,hg⟩;have hp:zL s a=match s[b]? with
   | some c=>if ql c=7 then b+j3 zeg (s.drop b) else b
   | none=>b:=by rw [hb];rfl
 refine⟨Unit,fun _=>⟨[(0,At0 g)],[]⟩,fun _ X=>(∃ hl:b<s.length,ql s[b]=7)/\ScV X g s b op/\w.grownBy X (some g),?_,?_⟩
 ·refine DrawE.ord [] [0,1,2,3,4,5,6,7,8,9,10,11,12,13,14] (by kernel_rfl) ?_;have hXd:ScV X.drew g s b op:=hX;refine cmo (zjC hXd.cells) ?_;rintro e Y ⟨rfl,hbY⟩;refine⟨hbY,?_⟩;have hY:=hXd.below hbY;have gY:w.grownBy Y (some g):=zd hg (zi ((Ga _ X).drew.trans hbY));refine biE (fun ho=>?_) fun ho=>?_
  ·have ho:s.length<=b:=dT ho;refine brT ?_;have:zL s a=b:=by rw [hp,JJ ho]
   rw [this];exact⟨⟨_,rfl⟩,hY,gY⟩
  ·have ho:¬ s.length<=b:=dF ho;have hl:b<s.length:=by omega
   refine⟨_,zc hY.cells (i:=0) rfl,_,zc hY.cells (i:=1) rfl,b,rfl,hl,s[b],zcL hl,cmo (zac _ _) ?_⟩;rintro e _ ⟨rfl,rfl⟩;refine⟨Ga _ _,biE (fun hi=>?_) fun hi=>?_⟩
   ·have hi:¬ ql s[b]=7:=by
     have h1:(!decide ((ql s[b]:Int)=7))=true:=hi;simp at h1;omega
    have:zL s a=b:=(by rw [hp,gE hl];simp only [Gm hi]);rw [this];exact⟨⟨_,rfl⟩,hY,gY⟩
   ·have hi:ql s[b]=7:=by
     have h1:(!decide ((ql s[b]:Int)=7))=false:=hi;simp at h1;omega
    exact⟨(),(cvE rfl rfl),⟨hl,hi⟩,hY,gY⟩
 clear hX hg X;rintro _ X ⟨⟨hl,h7⟩,hX,hg⟩;have hp:zL s a=b+j3 zeg (s.drop b):=by rw [hp,gE hl];simp only [Gn h7]
 rw [hp];refine⟨Nat,fun k=>⟨[(0,At0 g)],[]⟩,fun k X=>k<=s.length/\k+j3 zeg (s.drop k)=b+j3 zeg (s.drop b)/\ScV X g s k op/\w.grownBy X (some g),fun k=>s.length-k,b,(cvE rfl rfl),⟨hbl,rfl,hX,hg⟩,?_⟩;clear hX hg X;rintro k X ⟨hk,he,hX,hg⟩;dsimp only at hk he ⊢;refine cmo (znK hX.cells (hlt hX)) ?_;rintro e Y ⟨rfl,hbY⟩;have hY:=hX.below hbY;have gY:=zgF hg hbY;refine biE (fun hi=>?_) fun hi=>?_
 ·have hi:zag s k=false:=by
   have h1:(!zag s k)=true:=hi;simpa using h1
  have hkl:k<s.length:=by
   by_cases h0:k<s.length
   ·exact h0
   ·rw [zh4 (by omega)] at hi;cases hi
  have hn:zeg s[k]=true:=by
   rw [zcO hkl] at hi;unfold zeg;rw [hi];rfl
  rw [zbM hkl,Gn hn] at he;exact⟨_,zc hY.cells (i:=1) rfl,(k+1:Nat),(ze (by omega)).trans (by omega),zfE hY (k+1) fun Z hZ gZ sZ=>⟨k+1,(cvE rfl rfl),⟨hkl,by omega,hZ,zd gY gZ⟩,zdc (by omega)⟩⟩
 ·have hi:zag s k=true:=by
   have h1:(!zag s k)=false:=hi;simpa using h1
  have h0:j3 zeg (s.drop k)=0:=by
   by_cases h0:k<s.length
   ·rw [zcO h0] at hi;rw [zbM h0,Gm];unfold zeg;rw [hi];decide
   ·exact zgz (by omega)
  rw [h0] at he;have he:k=b+j3 zeg (s.drop b):=by omega
  exact⟨⟨_,rfl⟩,by rw [<- he];exact hY,gY⟩
theorem zm4 {s:List UInt8} {a:Nat} (ha:a<=s.length):zL s a<=s.length:=by
 have h1:zcf s a<=s.length:=zk5 s a ha;unfold zL
 split
 ·split
  ·exact zk5 s _ h1
  ·exact h1
 ·exact h1
def js:Enc Tok:=⟨fun t=>[u8 t.kind,qG t.text,i64 t.pos],3,fun _=>rfl,by decide,fun a u hu=>by
 simp only [UB,Qu,Gk] at hu;rcases hu with rfl | rfl | rfl <;> rfl⟩
theorem zmk {s:List UInt8} {a:Nat} (ha:a<s.length) (c:UInt8):a<za7 s a c/\za7 s a c<=s.length:=by
 unfold za7
 split
 ·have:=zk5 (p:=qJ) s (a+1) ha;omega
 ·split
  ·have:=zk5 (p:=zbu) s (a+1) ha;omega
  ·split
   ·rename_i h;have h2:s[a+1]?=some 61:=by
     simp only [bAT,dE] at h;exact h.2
    have:=(Js.1 h2).1;omega
   ·omega
theorem zmu (s:List UInt8) (a e:Nat):(bs s).extract a e=bs ((s.drop a).take (e-a)):=by
 have h:((bs s).extract a e).data=(bs ((s.drop a).take (e-a))).data:=by
  rw [ByteArray.data_extract];apply Qd.1;rw [JS];rfl
 exact ByteArray.ext h
theorem zra {g a:Nat} {s:List UInt8} {op:Bool} {w:Wd} (h:ScV w g s a op) (ha:a<s.length) (hs:s.length<=140737488351232) :
  Calls PG 184 #[At0 g] w fun e w'=>e = .returned (.agg (js.enc (zkf s a s[a])).toArray)/\ScV w' g s (za7 s a s[a]) op/\w.grownBy w' (some g):=by
 refine qA 51 [At0 g] (.s .p (.s .p (.c .p .p))) Tryz.func184 ?_;obtain⟨z,hz⟩:=nm (js.enc ⟨0,[],0⟩);obtain⟨W0,hW0⟩:=nm ((w.alloc (.cells z.toArray 169)));have hb0:Bw w W0:=by rw [hW0];exact (zba _ _)
 have f0:W0.heap[w.heap.size]?=some (.cells z.toArray 169 (0,0)):=by rw [hW0];exact zw w _
 have h0:ScV W0 g s a op:=h.below hb0;have hgl:g<w.heap.size:=hlt h;refine⟨Nat,fun f=>⟨[(0,At0 g),(2,.pointer (some ⟨w.heap.size,0,none⟩)),(3,u8 (zgb s[a])),(4,.func (.func f) #[] #[])],[]⟩,fun f X=>Bw W0 X /\
  ((ql s[a]=3/\f=196)\/(¬ ql s[a]=3/\ql s[a]=4/\f=197)\/(¬ ql s[a]=3/\¬ ql s[a]=4/\f=195)),?_,?_⟩
 ·subst hz;subst hW0;refine DrawE.ord [] [0,1,2,3,4,5,6,7,8,9,10,11] (by kernel_rfl) ?_;have hd:ScV (w.alloc (.cells (js.enc ⟨0,[],0⟩).toArray 169)).drew g s a op:=h0;refine⟨_,zc hd.cells (i:=0) rfl,_,zc hd.cells (i:=1) rfl,a,rfl,ha,s[a],zcL ha,cmo (zac _ _) ?_⟩;rintro e _ ⟨rfl,rfl⟩;refine⟨Ga _ _,biE (fun h3=>?_) fun h3=>?_⟩
  ·have h3:ql s[a]=3:=by have h3:(ql s[a]:Int)=3:=dT h3;omega
   exact⟨_,⟨.cons rfl (.cons rfl (.cons (by unfold zgb;rw [Gn h3];rfl) (.cons rfl .nil))),rfl⟩,(Ga _ _).drew,.inl ⟨h3,rfl⟩⟩
  have h3:¬ ql s[a]=3:=by have h3:¬ (ql s[a]:Int)=3:=dF h3;omega
  refine biE (fun h4=>?_) fun h4=>?_
  ·have h4:ql s[a]=4:=by have h4:(ql s[a]:Int)=4:=dT h4;omega
   exact⟨_,⟨.cons rfl (.cons rfl (.cons (by unfold zgb;rw [Gm h3,Gn h4];rfl) (.cons rfl .nil))),rfl⟩,(Ga _ _).drew,.inr (.inl ⟨h3,h4,rfl⟩)⟩
  ·have h4:¬ ql s[a]=4:=by have h4:¬ (ql s[a]:Int)=4:=dF h4;omega
   exact⟨_,⟨.cons rfl (.cons rfl (.cons (by unfold zgb;rw [Gm h3,Gm h4];rfl) (.cons rfl .nil))),rfl⟩,(Ga _ _).drew,.inr (.inr ⟨h3,h4,rfl⟩)⟩
 rintro f V ⟨hV,hf⟩;dsimp only at hV hf ⊢;have hVs:=h0.below hV;obtain⟨e1,e2⟩:=zmk ha s[a];have fin:∀ Y,Bw V Y->∀ Z,ScV Z g s (za7 s a s[a]) op->Y.grownBy Z (some g)->Bw w Y/\Z.heap[w.heap.size]?=some (.cells z.toArray 169 (0,0))/\w.grownBy Z (some g):=fun Y hY Z hZ gZ=>by
  have hwY:=((zst hb0 hV)).trans (hY.mono (by have:=hb0.size;have:=hV.size;omega));have f1:=zb hY (zb hV f0);refine⟨hwY,(gZ.block _ (hlt f1) (fun e=>by simp only [KY] at e;omega)).trans f1,zd (zi hwY) gZ⟩
 have last:∀ Z,Z.heap[w.heap.size]?=some (.cells z.toArray 169 (0,0))->w.grownBy Z (some g)->∀ R,Z.grownBy R (some w.heap.size)->w.grownBy R (some g):=fun Z _ gZ R gR =>
  ⟨gR.os.trans gZ.os,gR.tape.trans gZ.tape,gR.output.trans gZ.output,UL gZ.size gR.size,fun k hk hne=>(gR.block k (nL hk gZ.size) (fun e=>by simp only [KY] at e;omega)).trans (gZ.block k hk hne)⟩
 have fill:∀ cs,cs=js.enc (zkf s a s[a])->∀ Z,Z.heap[w.heap.size]?=some (.cells z.toArray 169 (0,0))->∀ (K:Wd->Prop),(∀ R,R.heap[w.heap.size]?=some (.cells (js.enc (zkf s a s[a])).toArray 169 (0,0))->Z.grownBy R (some w.heap.size)->K R) ->
   SatR ((storeVar 169 ⟨w.heap.size,0,none⟩ (.agg cs.toArray)).run PG Z) fun _ w'=>K w':=fun cs hcs Z fZ K k=>by
  subst hz hcs;exact zt (v := .agg (js.enc (zkf s a s[a])).toArray) zk2 fZ rfl rfl rfl (k _ (zn fZ) (jI Z _ _))
 rcases hf with ⟨h3,rfl⟩ | ⟨h3,h4,rfl⟩ | ⟨h3,h4,rfl⟩
 ·refine⟨_,zc hVs.cells (i:=1) rfl,cmo (znT hVs.cells ha hs) ?_⟩;rintro e _ ⟨rfl,rfl⟩;have hbY:Bw V V:=Ga _ _;have hVY:=hVs;have ee:a+1+j3 qJ (s.drop (a+1))=za7 s a s[a]:=by unfold za7;rw [Gn h3]
  rw [ee];refine zfE hVY (za7 s a s[a]) fun Z hZ gZ sZ=>?_;obtain⟨hwY,fZ,gwZ⟩:=fin V hbY Z hZ gZ;refine DrawE.ord [15] [0,1,2,3,4,5,6,7,8,9,10,11,12,13,14,15] (by kernel_rfl) ?_;have hZd:ScV Z.drew g s (za7 s a s[a]) op:=hZ;refine⟨_,zc hZd.cells (i:=0) rfl,_,zc hZd.cells (i:=1) rfl,za7 s a s[a],rfl,e2,a,rfl,by omega,?_⟩;exact⟨[u8 (zgb s[a]),.string ((bs s).extract a (za7 s a s[a])),i64 a],rfl,fill _ (by rw [zmu];rfl) Z.drew fZ _ fun R fR gR=>⟨_,rfl,za fR,rfl,(gR.block g (hlt hZd) (fun e=>by simp only [KY] at e;omega)).trans hZd,last Z.drew fZ (zd gwZ (zi (Ga _ Z).drew)) R gR⟩⟩
 ·refine⟨_,zc hVs.cells (i:=1) rfl,cmo (zkQ hVs.cells ha hs) ?_⟩;rintro e _ ⟨rfl,rfl⟩;have hbY:Bw V V:=Ga _ _;have hVY:=hVs;have ee:a+1+j3 zbu (s.drop (a+1))=za7 s a s[a]:=by unfold za7;rw [Gm h3,Gn h4]
  rw [ee];refine zfE hVY (za7 s a s[a]) fun Z hZ gZ sZ=>?_;obtain⟨hwY,fZ,gwZ⟩:=fin V hbY Z hZ gZ;refine DrawE.ord [15] [0,1,2,3,4,5,6,7,8,9,10,11,12,13,14,15] (by kernel_rfl) ?_;have hZd:ScV Z.drew g s (za7 s a s[a]) op:=hZ;refine⟨_,zc hZd.cells (i:=0) rfl,_,zc hZd.cells (i:=1) rfl,za7 s a s[a],rfl,e2,a,rfl,by omega,?_⟩;exact⟨[u8 (zgb s[a]),.string ((bs s).extract a (za7 s a s[a])),i64 a],rfl,fill _ (by rw [zmu];rfl) Z.drew fZ _ fun R fR gR=>⟨_,rfl,za fR,rfl,(gR.block g (hlt hZd) (fun e=>by simp only [KY] at e;omega)).trans hZd,last Z.drew fZ (zd gwZ (zi (Ga _ Z).drew)) R gR⟩⟩
 ·refine⟨_,zc hVs.cells (i:=1) rfl,cmo (zn2 hVs.cells ha hs) ?_⟩;rintro e Y ⟨rfl,hbY⟩;have hVY:=hVs.below hbY;have ee:zgW s a s[a]=za7 s a s[a]:=by unfold za7;rw [Gm h3,Gm h4];rfl
  rw [ee];refine zfE hVY (za7 s a s[a]) fun Z hZ gZ sZ=>?_;obtain⟨hwY,fZ,gwZ⟩:=fin Y hbY Z hZ gZ;refine DrawE.ord [15] [0,1,2,3,4,5,6,7,8,9,10,11,12,13,14,15] (by kernel_rfl) ?_;have hZd:ScV Z.drew g s (za7 s a s[a]) op:=hZ;refine⟨_,zc hZd.cells (i:=0) rfl,_,zc hZd.cells (i:=1) rfl,za7 s a s[a],rfl,e2,a,rfl,by omega,?_⟩;exact⟨[u8 (zgb s[a]),.string ((bs s).extract a (za7 s a s[a])),i64 a],rfl,fill _ (by rw [zmu];rfl) Z.drew fZ _ fun R fR gR=>⟨_,rfl,za fR,rfl,(gR.block g (hlt hZd) (fun e=>by simp only [KY] at e;omega)).trans hZd,last Z.drew fZ (zd gwZ (zi (Ga _ Z).drew)) R gR⟩⟩
def zes (l:List UInt8):Nat:=l.foldl (fun v c=>10*v+(c.toNat-48)) 0
theorem zol {s:List UInt8} {k:Nat} (h:k<s.length):zes (s.take (k+1))=10*zes (s.take k)+(s[k].toNat-48):=by
 unfold zes;rw [tsg h,KS];rfl
theorem zsm {c:UInt8} (h:zbu c=true):48<=c.toNat/\c.toNat<=57:=by
 unfold zbu at h;have h:ql c=4:=dT h;unfold ql at h
 cases h1:zgc c with
 | true=>rw [h1] at h;cases h
 | false =>
  rw [h1] at h
  cases h2:zhE c with
  | true=>unfold zhE at h2;simp at h2;omega
  | false =>
   rw [h2] at h
   revert h
   cases eqB c 32||eqB c 9 <;> cases eqB c 10 <;> cases eqB c 95 <;> cases eqB c 35 <;> cases zng c <;> (intro h;cases h)
theorem zuH (s:List UInt8) (hs:s.length<=140737488351232) (w:Wd):Calls PG 186 #[qG s] w fun e w'=>∃ v,e = .returned (.tuple #[u8 v,.bool (zjF s)])/\w=w':=by
 refine qA 47 [qG s] (.s .p (.c .p .p)) Tryz.func186 ?_;have hnl:zjF s=(decide (1<=s.length)&&(decide (s.length<=3)&&(!(decide (s.head?=some 48)&&decide (1<s.length))&&(s.all zbu&&decide (zes s<=255))))):=rfl;refine⟨Unit,fun _=>⟨[(0,qG s)],[]⟩,fun _ X=>(1<=s.length/\s.length<=3/\(decide (s.head?=some 48)&&decide (1<s.length))=false)/\w=X,?_,?_⟩
 ·refine biE (fun h1=>?_) fun h1=>?_
  ·have h1:(s.length:Int)<1:=dT h1;exact brT (brT ⟨0,by rw [hnl,Uf (by omega)];rfl,rfl⟩)
  have h1:¬ (s.length:Int)<1:=dF h1;refine biE (fun h2=>?_) fun h2=>?_
  ·have h2:(3:Int)<(s.length:Int):=dT h2;exact brT ⟨0,by rw [hnl,Uf (p:=s.length<=3) (by omega)];simp;rfl,rfl⟩
  have h2:¬ (3:Int)<(s.length:Int):=dF h2;have h0:0<s.length:=by omega
  have hh:s.head?=some s[0]:=by rw [List.head?_eq_getElem?,gE h0]
  refine⟨0,rfl,h0,s[0],zcL h0,biE (fun h3=>?_) fun h3=>?_⟩
  ·have h3:s[0]=48:=by
    apply Ue.1;have h3:((s[0].toNat:Nat):Int)=48:=dT h3;have:(48:UInt8).toNat=48:=rfl;omega
   refine biE (fun h4=>?_) fun h4=>?_
   ·have h4:(1:Int)<(s.length:Int):=dT h4;exact⟨0,by rw [hnl,hh,h3,Uq (p:=1<s.length) (by omega)];simp;rfl,rfl⟩
   ·have h4:¬ (1:Int)<(s.length:Int):=dF h4;exact⟨(),(cvE rfl rfl),⟨by omega,by omega,by rw [Uf (p:=1<s.length) (by omega),Ug]⟩,rfl⟩
  ·refine brF ?_;exact⟨(),(cvE rfl rfl),⟨by omega,by omega,by
    have:¬ s[0]=48:=fun e=>by rw [e] at h3;cases h3
    rw [hh,Uf (by simpa using this),Uh]⟩,rfl⟩
 rintro _ _ ⟨⟨h1,h2,h3⟩,rfl⟩;have hnl:zjF s=(s.all zbu&&decide (zes s<=255)):=by rw [hnl,Uq h1,Uq h2,h3];rfl
 rw [hnl];refine⟨Nat,fun k=>⟨[(0,qG s),(4,i64 (zes (s.take k):Nat)),(25,i64 s.length),(26,i64 (k:Nat))],[]⟩,fun k X=>k<=s.length/\(∀ c∈s.take k,zbu c=true)/\zes (s.take k)<10^k/\w=X,fun k=>s.length-k,0,(cvE rfl rfl),⟨UY _,by simp,Nat.one_pos,rfl⟩,?_⟩;rintro k _ ⟨hk,hdg,hv,rfl⟩;dsimp only at hk hdg hv ⊢;refine biE (fun hc=>?_) fun hc=>?_
 ·have hc:(k:Int)<(s.length:Int):=dT hc;have hl:k<s.length:=by omega
  refine⟨k,rfl,hl,s[k],zcL hl,cmo (zac _ _) ?_⟩;rintro e _ ⟨rfl,rfl⟩;have hd:decide ((ql s[k]:Int)=4)=zbu s[k]:=zca (b:=4);refine biE (fun hi=>?_) fun hi=>?_
  ·have hi:zbu s[k]=false:=by
    have h1:(!decide ((ql s[k]:Int)=4))=true:=hi;rw [hd] at h1;simpa using h1
   have:s.all zbu=false:=by
    rw [KL];exact⟨s[k],gM _,by rw [hi];simp⟩
   exact⟨0,by rw [this];rfl,rfl⟩
  ·have hi:zbu s[k]=true:=by
    have h1:(!decide ((ql s[k]:Int)=4))=false:=hi;rw [hd] at h1;simpa using h1
   obtain⟨d1,d2⟩:=zsm hi;have hv3:zes (s.take k)<1000:=nL hv (by
    have:k<=3:=(by omega);exact Ke (by decide) this)
   have hsn:=zol hl;refine⟨((10*zes (s.take k):Nat):Int),(ze (by omega)).trans (by omega),k,rfl,hl,s[k],zcL hl,((s[k].toNat-48:Nat):Int),(zeK (by omega)).trans (by omega),((s[k].toNat-48:Nat):Int),(ze (by omega)).trans (by omega),(zes (s.take (k+1)):Int),(ze (by omega)).trans (by omega),(k+1:Nat),(ze (by omega)).trans (by omega),k+1,(cvE rfl rfl),⟨hl,?_,?_,rfl⟩,zdc (by omega)⟩
   ·rw [tsg hl];intro c hc;rcases QQ.1 hc with hc | hc
    ·exact hdg c hc
    ·simp only [KA] at hc;rw [hc];exact hi
   ·rw [hsn,Nat.pow_succ];omega
 ·have hc:¬ (k:Int)<(s.length:Int):=dF hc;obtain rfl:k=s.length:=by omega
  rw [Qv] at hdg hv;have ha:s.all zbu=true:=Qi.2 hdg;rw [ha,Qv];have hv3:zes s<1000:=nL hv (Ke (by decide) h2);refine biE (fun h5=>?_) fun h5=>?_
  ·have h5:(255:Int)<(zes s:Int):=dT h5;exact⟨0,by rw [Uf (by omega)];rfl,rfl⟩
  ·have h5:¬ (255:Int)<(zes s:Int):=dF h5;exact⟨((UInt8.ofNat (zes s)).toNat:Int),(zeK (by omega)).trans (by rw [KH];omega),UInt8.ofNat (zes s),by rw [Uq (by omega)];rfl,rfl⟩
theorem ztB {t:Tok} (h:t.kind=3) (hl:0<t.text.length):jA t=if ql t.text[0]=6 then 0 else 40:=by
 obtain⟨k,x,p⟩:=t;have h:k=3:=h;subst h
 cases x with
 | nil=>exact Gp hl (Nat.lt_irrefl 0)
 | cons a r=>rfl
theorem zrS (t:Tok) (ht:t.kind=3->t.text≠[]) (hs:t.text.length<=140737488351232) (w:Wd):CB 164 #[.agg (js.enc t).toArray] w (i64 (jA t)):=by
 refine zI 30 [.agg (js.enc t).toArray] Tryz.func164 ?_;have hb0:Bw w (w.alloc (.cells (js.enc t).toArray 169)):=zba _ _;have f0:=zw w (.cells (js.enc t).toArray 169);have c0:zK (w.alloc (.cells (js.enc t).toArray 169)) ⟨w.heap.size,0,none⟩ [u8 t.kind,qG t.text,i64 t.pos]:=za f0;have kd:∀ k:UInt8,decide ((t.kind.toNat:Int)=(k.toNat:Int))=decide (t.kind=k):=fun k=>by
  rw [QE];exact qu
 refine⟨_,zc c0 (i:=0) rfl,biE (fun h1=>?_) fun h1=>?_⟩
 ·have h1:t.kind=1:=dT ((kd 1).symm.trans h1);have e:jA t=if 16<t.text.length then 42 else 0:=by unfold jA;rw [Gn h1]
  rw [e];refine⟨_,zc c0 (i:=1) rfl,biE (fun h2=>?_) fun h2=>?_⟩
  ·have h2:(16:Int)<(t.text.length:Int):=dT h2;exact⟨by rw [Gn (by omega)];rfl,hb0⟩
  ·have h2:¬ (16:Int)<(t.text.length:Int):=dF h2;exact⟨by rw [Gm (by omega)];rfl,hb0⟩
 have h1:¬ t.kind=1:=dF ((kd 1).symm.trans h1);refine biE (fun h2=>?_) fun h2=>?_
 ·have h2:t.kind=2:=dT ((kd 2).symm.trans h2);have e:jA t=if zjF t.text then 0 else 41:=by unfold jA;rw [Gm h1,Gn h2]
  rw [e];refine⟨_,zc c0 (i:=1) rfl,cmo (zuH t.text hs _) ?_⟩;rintro e _ ⟨v,rfl,rfl⟩;refine biE (fun h3=>?_) fun h3=>?_
  ·have h3:(!zjF t.text)=true:=h3;have h3:zjF t.text=false:=by simpa using h3
   exact⟨by rw [h3];rfl,hb0⟩
  ·have h3:(!zjF t.text)=false:=h3;have h3:zjF t.text=true:=by simpa using h3
   exact⟨by rw [h3];rfl,hb0⟩
 have h2:¬ t.kind=2:=dF ((kd 2).symm.trans h2);refine biE (fun h3=>?_) fun h3=>?_
 ·have h3:t.kind=3:=dT ((kd 3).symm.trans h3);have hne:=ht h3;have hl:0<t.text.length:=List.length_pos_iff.2 hne;have e:jA t=if ql t.text[0]=6 then 0 else 40:=ztB h3 hl
  rw [e];refine⟨_,zc c0 (i:=1) rfl,0,rfl,hl,t.text[0],zcL hl,cmo (zac _ _) ?_⟩;rintro e _ ⟨rfl,rfl⟩;refine biE (fun h4=>?_) fun h4=>?_
  ·have h4:(!decide ((ql t.text[0]:Int)=6))=true:=h4;have h4:¬ ql t.text[0]=6:=by simp at h4;omega
   exact⟨by rw [Gm h4];rfl,hb0⟩
  ·have h4:(!decide ((ql t.text[0]:Int)=6))=false:=h4;have h4:ql t.text[0]=6:=by simp at h4;omega
   exact⟨by rw [Gn h4];rfl,hb0⟩
 have h3:¬ t.kind=3:=dF ((kd 3).symm.trans h3);exact⟨by unfold jA;rw [Gm h1,Gm h2,Gm h3];rfl,hb0⟩
theorem zfQ {a b c:Wd} {g r:Nat} (h:a.grownBy b (some g)) (k:b.grownBy c (some r)) (hr:a.heap.size<=r):a.grownBy c (some g) :=
 ⟨k.os.trans h.os,k.tape.trans h.tape,k.output.trans h.output,UL h.size k.size,fun i hi hne=>(k.block i (nL hi h.size) (fun e=>by simp only [KY] at e;omega)).trans (h.block i hi hne)⟩
theorem zrz {x y:Int} {T:Array TypeId} {t:TypeId} {w:Wd} {K:Value->Wd->Prop} (k:K (.int .i64 (if y<x then y else x)) w):SatR ((Builtin.min_ T t [Value.int .i64 x,.int .i64 y].toArray).run PG w) K :=
 SatR.mk (v := .int .i64 (if y<x then y else x)) (w':=w) (by simp [Builtin.min_,Builtin.min2]) k
section
variable {s:List UInt8} {f a:Nat} {op:Bool}
theorem zkT (h:zL s a<s.length) (h2:¬ ql s[zL s a]=2):zax s (f+1) a op=some (zkf s (zL s a) s[zL s a],za7 s (zL s a) s[zL s a],true):=by
 unfold zax;rw [gE h];simp only [Gm h2]
theorem zhq (h:zag s (zL s a)=true):zax s (f+1) a true=some (⟨4,[],zL s a⟩,min (zL s a+1) s.length,false):=by
 unfold zax;by_cases hp:zL s a<s.length
 ·rw [zcO hp] at h;have h:=dT h;rw [gE hp];simp only [Gn h];rfl
 ·rw [JJ (by omega)];rfl
theorem ziL (h:s.length<=zL s a):zax s (f+1) a false=none:=by
 unfold zax;rw [JJ h];rfl
theorem ziM (h:zL s a<s.length) (h2:ql s[zL s a]=2):zax s (f+1) a false=zax s f (min (zL s a+1) s.length) false:=by
 conv=>lhs;unfold zax
 rw [gE h];simp only [Gn h2];rfl
theorem zm5:a<=zL s a:=by
 have h1:a<=zcf s a:=Qx _ _;unfold zL
 split
 ·split
  ·omega
  ·exact h1
 ·exact h1
end
def zj6:Tok:=⟨0,[],0⟩
theorem zpD {g a:Nat} {s:List UInt8} {op:Bool} {w:Wd} (h:ScV w g s a op) (ha:a<=s.length) (hs:s.length<=140737488351232) :
  Calls PG 163 #[At0 g] w fun e w'=>∃ t a' op' ok,e = .returned (.tuple #[.agg (js.enc t).toArray,.bool ok])/\(ok=true->zax s (s.length+2) a op=some (t,a',op'))/\(ok=false->zax s (s.length+2) a op=none) /\
   a'<=s.length/\ScV w' g s a' op'/\w.grownBy w' (some g):=by
 refine zI 57 [At0 g] Tryz.func163 ?_;obtain⟨r,hr⟩:=nm (w.heap.size);have hgl:g<r:=by rw [hr];exact hlt h
 obtain⟨W0,hW0⟩:=nm (w.alloc (.cells (js.enc zj6).toArray 169));have hb0:Bw w W0:=by rw [hW0];exact (zba _ _)
 have f0:W0.heap[r]?=some (.cells (js.enc zj6).toArray 169 (0,0)):=by rw [hW0,hr];exact zw w _
 have h0:ScV W0 g s a op:=h.below hb0;refine⟨Nat×Nat×Bool,fun k=>⟨[(0,At0 g),(2,At0 r)],[]⟩,fun k X=>s.length+1<=k.1+k.2.1/\k.2.1<=s.length/\zax s (k.1+1) k.2.1 k.2.2=zax s (s.length+2) a op/\ScV X g s k.2.1 k.2.2/\w.grownBy X (some g)/\X.heap[r]?=some (.cells (js.enc zj6).toArray 169 (0,0)),
  fun k=>s.length-k.2.1,(s.length+1,a,op),⟨.cons rfl (.cons (by rw [hr];rfl) .nil),rfl⟩,⟨by omega,ha,rfl,by subst hW0;exact h0,by subst hW0;exact zi hb0,by subst hW0;exact f0⟩,?_⟩
 clear hW0 hb0 f0 h0 W0;rintro⟨f,k,o⟩ X ⟨hf,hk,hn,hX,gX,fX⟩;dsimp only at hf hk hn hX gX fX ⊢;have fillR:∀ (t:Tok) (Y:Wd),Y.heap[r]?=some (.cells (js.enc zj6).toArray 169 (0,0))->∀ (K:Wd->Prop),(∀ R,R.heap[r]?=some (.cells (js.enc t).toArray 169 (0,0))->Y.grownBy R (some r)->K R) ->
   SatR ((storeVar 169 ⟨r,0,none⟩ (.agg (js.enc t).toArray)).run PG Y) fun _ w'=>K w':=fun t Y fY K q =>
  zt (v := .agg (js.enc t).toArray) zk2 fY rfl rfl rfl (q _ (zn fY) (jI Y _ _))
 have keepR:∀ {A B:Wd},A.grownBy B (some g)->A.heap[r]?=some (.cells (js.enc zj6).toArray 169 (0,0))->B.heap[r]?=some (.cells (js.enc zj6).toArray 169 (0,0)):=fun hg hA=>(hg.block _ (hlt hA) (fun e=>by simp only [KY] at e;omega)).trans hA;have keepS:∀ {A B:Wd} {a:Nat} {o:Bool} {q:Nat},A.grownBy B (some q)->g≠q->ScV A g s a o->ScV B g s a o:=fun hg hq hA=>(hg.block _ (hlt hA) (fun e=>hq (by simpa using e))).trans hA;refine cmo (ztm hX hk hs) ?_;rintro e Y ⟨⟨v,rfl⟩,hY,gY⟩;have hp:=zm4 (s:=s) hk;have hpk:=zm5 (s:=s) (a:=k);have fY:=keepR gY fX;have gwY:=zd gX gY;refine cmo (znK hY.cells (hlt hY)) ?_;rintro e Z ⟨rfl,hbZ⟩;have hZ:=hY.below hbZ;have gwZ:=zgF gwY hbZ;have fZ:=zb hbZ fY;refine biE (fun hc=>?_) fun hc=>?_
 ·have hc:zag s (zL s k)=false:=by
   have h1:(!zag s (zL s k))=true:=hc;simpa using h1
  have hl:zL s k<s.length:=by
   by_cases h1:zL s k<s.length
   ·exact h1
   ·rw [zh4 (by omega)] at hc;cases hc
  rw [zcO hl] at hc;have hc:=dF hc;rw [zkT hl hc] at hn;refine zkG hZ true fun U hU gU sU=>?_;have gwU:=zd gwZ gU;have fU:=keepR gU fZ;refine cmo (zra hU hl hs) ?_;rintro e V ⟨rfl,hV,gV⟩;have gwV:=zd gwU gV;exact fillR _ V (keepR gV fU) _ fun R fR gR=>⟨_,rfl,za fR,_,_,_,true,rfl,fun _=>hn.symm,fun h=>(by cases h),(zmk hl _).2,keepS gR (by omega) hV,zfQ gwV gR (by omega)⟩
 have hc:zag s (zL s k)=true:=by
  have h1:(!zag s (zL s k))=false:=hc;simpa using h1
 refine⟨_,zc hZ.cells (i:=1) rfl,js.enc ⟨4,[],zL s k⟩,rfl,zq (X:=Z) (v := .agg (js.enc ⟨4,[],zL s k⟩).toArray) zk2 rfl rfl rfl fun U hbU fU4 sU=>?_⟩;have fU4:U.heap[Z.heap.size]?=some (.cells (js.enc ⟨4,[],zL s k⟩).toArray 169 (0,0)):=fU4;have hU:=hZ.below hbU;have gwU:=zgF gwZ hbU;have fU:=zb hbU fZ;have hzs:r<Z.heap.size:=hlt fZ;refine cmo (zjC hU.cells) ?_;rintro e V ⟨rfl,hbV⟩;have hV:=hU.below hbV;have gwV:=zgF gwU hbV;have fV:=zb hbV fU;have fV4:=zb hbV fU4;refine DrawE.ord [17] [0,1,2,3,4,5,6,7,8,9,10,11,12,13,14,15,16,17] (by kernel_rfl) ?_;have hVd:ScV V.drew g s (zL s k) o:=hV;refine⟨_,zc hVd.cells (i:=1) rfl,(zL s k+1:Nat),(ze (by omega)).trans (by omega),_,zc hVd.cells (i:=0) rfl,zrz ⟨Ga _ _,?_⟩⟩;have hmin:(if ((s.length:Nat):Int)<((zL s k+1:Nat):Int) then ((s.length:Nat):Int) else ((zL s k+1:Nat):Int))=((min (zL s k+1) s.length:Nat):Int):=by
  split <;> omega
 have e5:Value.int .i64 (if (((bs s).size:Nat):Int)<((zL s k+1:Nat):Int) then (((bs s).size:Nat):Int) else ((zL s k+1:Nat):Int))=i64 (min (zL s k+1) s.length:Nat):=by
  rw [show (bs s).size=s.length from rfl,hmin];rfl
 rw [e5];refine zfE hVd (min (zL s k+1) s.length) fun R hR gR sR=>?_;have gwR:=zd (zd gwV (zi (Ga _ V).drew)) gR;have fR:=keepR gR (hdr fV);have fR4:R.heap[Z.heap.size]?=some (.cells (js.enc ⟨4,[],zL s k⟩).toArray 169 (0,0)):=(gR.block _ (hlt (hdr fV4)) (fun e=>by simp only [KY] at e;omega)).trans (hdr fV4);refine⟨_,zc (za hR) (i:=2) rfl,biE (fun ho=>?_) fun ho=>?_⟩
 ·have ho:o=true:=ho;subst ho;rw [zhq hc] at hn;refine zkG hR false fun T hT gT sT=>?_;have gwT:=zd gwR gT;have fT:=keepR gT fR;have fT4:T.heap[Z.heap.size]?=some (.cells (js.enc ⟨4,[],zL s k⟩).toArray 169 (0,0)):=(gT.block _ (hlt fR4) (fun e=>by simp only [KY] at e;omega)).trans fR4;exact⟨_,rfl,za fT4,hlt fT4,fillR ⟨4,[],zL s k⟩ T fT _ fun L fL gL=>⟨_,rfl,za fL,_,_,_,true,rfl,fun _=>hn.symm,fun h=>(by cases h),QA _ _,keepS gL (by omega) hT,zfQ gwT gL (by omega)⟩⟩
 ·have ho:o=false:=ho;subst ho;refine biE (fun h5=>?_) fun h5=>?_
  ·have h5:s.length<=zL s k:=dT h5;rw [ziL h5] at hn;exact⟨js.enc zj6,rfl,fillR zj6 R fR _ fun L fL gL=>⟨_,rfl,za fL,_,_,_,false,rfl,fun h=>(by cases h),fun _=>hn.symm,QA _ _,keepS gL (by omega) hR,zfQ gwR gL (by omega)⟩⟩
  ·have h5:¬ s.length<=zL s k:=dF h5;have hl:zL s k<s.length:=by omega
   have h2:ql s[zL s k]=2:=by rw [zcO hl] at hc;exact dT hc
   rw [ziM hl h2] at hn;have hmn:min (zL s k+1) s.length=zL s k+1:=QY (by omega);obtain⟨f',rfl⟩:∃ f',f=f'+1:=⟨f-1,by omega⟩;exact⟨(f',min (zL s k+1) s.length,false),(cvE rfl rfl),⟨by show _<=f'+min _ _;omega,QA _ _,hn,hR,gwR,fR⟩,by show s.length-min _ _<s.length-k;omega⟩
def bOp (op:Bool):Nat:=if op then 1 else 0
theorem zl6 {s:List UInt8} {f a a':Nat} {op op':Bool} {t:Tok} (h:zax s (f+1) a op=some (t,a',op')) :
  (∃ hl:zL s a<s.length,t=zkf s (zL s a) s[zL s a]/\a'=za7 s (zL s a) s[zL s a]/\op'=true)\/(op=true/\t=⟨4,[],zL s a⟩/\a'=min (zL s a+1) s.length/\op'=false) \/
   (op=false/\zL s a<s.length/\zax s f (min (zL s a+1) s.length) false=some (t,a',op')):=by
 by_cases hp:zL s a<s.length
 ·by_cases h2:ql s[zL s a]=2
  ·cases op with
   | true =>
    rw [zhq (by rw [zcO hp];exact Uq h2)] at h;simp only [KY,UE] at h;exact .inr (.inl ⟨rfl,h.1.symm,h.2.1.symm,h.2.2.symm⟩)
   | false =>
    rw [ziM hp h2] at h;exact .inr (.inr ⟨rfl,hp,h⟩)
  ·rw [zkT hp h2] at h;simp only [KY,UE] at h;exact .inl ⟨hp,h.1.symm,h.2.1.symm,h.2.2.symm⟩
 ·cases op with
  | true =>
   rw [zhq (zh4 (by omega))] at h;simp only [KY,UE] at h;exact .inr (.inl ⟨rfl,h.1.symm,h.2.1.symm,h.2.2.symm⟩)
  | false=>rw [ziL (by omega)] at h;cases h
theorem zdv {s:List UInt8} {t:Tok} {a':Nat} {op':Bool}:∀ {f a:Nat} {op:Bool},zax s f a op=some (t,a',op')->a<=s.length ->
  a'<=s.length/\2*(s.length-a')+bOp op'<2*(s.length-a)+bOp op/\(t.kind=3->t.text≠[])/\t.text.length<=s.length
 | 0,_,_,h,_=>by cases h
 | f+1,a,op,h,ha=>by
  have hpa:=zm5 (s:=s) (a:=a);have hpl:=zm4 ha;rcases zl6 h with ⟨hl,rfl,rfl,rfl⟩ | ⟨rfl,rfl,rfl,rfl⟩ | ⟨rfl,hl,h'⟩
  ·obtain⟨e1,e2⟩:=zmk hl s[zL s a];refine⟨e2,?_,fun _=>?_,?_⟩
   ·have:bOp true=1:=rfl;omega
   ·intro he;have h1:((s.drop (zL s a)).take (za7 s (zL s a) s[zL s a]-zL s a)).length=0:=by
     have:(zkf s (zL s a) s[zL s a]).text=[]:=he;exact Gi List.length this
    rw [Qt,Qs] at h1;omega
   ·show ((s.drop (zL s a)).take _).length<=_;rw [Qt,Qs];omega
  ·refine⟨QA _ _,?_,fun h=>(by cases h),UY _⟩;have h1:bOp true=1:=rfl;have h0:bOp false=0:=rfl;omega
  ·obtain⟨h1,h2,h3⟩:=zdv h' (QA _ _);refine⟨h1,?_,h3⟩;omega
theorem zis {s:List UInt8} {f a a':Nat} {op op':Bool} {t:Tok} (h:zax s (s.length+2) a op=some (t,a',op')):zcu s (f+1) a op=t::zcu s f a' op':=by
 show (match zax s (s.length+2) a op with
  | some (t,a',op')=>t::zcu s f a' op'
  | none=>[])=_
 rw [h]
theorem zir {s:List UInt8} {f a:Nat} {op:Bool} (h:zax s (s.length+2) a op=none):zcu s (f+1) a op=[]:=by
 show (match zax s (s.length+2) a op with
  | some (t,a',op')=>t::zcu s f a' op'
  | none=>[])=_
 rw [h]
def StT (pre:List Tok) (vs:List Value) (_:Wd):Prop:=∃ t,pre.getLast?=some t/\vs=[.agg (js.enc t).toArray,i64 (jA t)]
theorem zo6 {g:Nat} {w:Wd}:Calls PG 130 #[At0 g] w fun e w'=>e = .returned (.func (.func 162) #[] #[.pointer (some ⟨w.heap.size,0,none⟩)])/\w'=w.alloc (.cells #[At0 g] 238):=by
 refine zI 4 [At0 g] Tryz.func130 ?_;exact⟨rfl,rfl⟩
theorem znV {g bx:Nat} {s:List UInt8} {W0:Wd} (h:ScV W0 g s 0 false) (hbx:W0.heap[bx]?=some (.cells #[At0 g] 238 (0,0))) (hne:bx≠g) (hs:s.length<=140737488351232) :
  zsZ PG 162 [At0 bx] (jf s) W0 (fun k=>k=bx) (fun k=>k=g) StT:=by
 intro yl Fp J Jx W hsz hrd hrf hJ hJx hy h0;have hbW:W.heap[bx]?=some (.cells #[At0 g] 238 (0,0)):=(hrd bx (.inl rfl)).trans hbx;have hgW:ScV W g s 0 false:=(hrd g (.inr rfl)).trans h;have hbs:bx<W0.heap.size:=hlt hbx;have hgs:g<W0.heap.size:=hlt h;refine zI 23 [.func (.yield yl) #[] #[],At0 bx] Tryz.func162 ?_
 let Inv:List Tok->Wd->Prop:=fun pre X=>J pre X/\W.heap.size<=X.heap.size/\X.heap[bx]?=some (.cells #[At0 g] 238 (0,0))/\¬ Fp X bx
 have stepG:∀ pre X Y,Inv pre X->X.grownBy Y (some g)->Inv pre Y/\∀ k,Fp Y k->Fp X k:=fun pre X Y ⟨h1,h2,h3,h4⟩ hg=>by
  have hst:StepO W.heap.size (fun k=>k=g) Fp X Y:=⟨hg.os,hg.tape,hg.output,hg.size,fun k hk hf=>hg.block k hk (fun e=>by
   have e:g=k:=(by simpa using e:k=g).symm;rcases hf with hf | hf
   ·exact hf.2 e.symm
   ·exact (hJ.lt _ _ _ h1 hf).2 e.symm)⟩
  obtain⟨j1,j2⟩:=hJ.step _ _ _ h1 hst;refine⟨⟨j1,UL h2 hg.size,(hg.block _ (hlt h3) (fun e=>hne (by simpa using e))).trans h3,fun hf=>h4 (j2 _ hf)⟩,j2⟩
 have stepB:∀ pre X Y,Inv pre X->Bw X Y->Inv pre Y/\∀ k,Fp Y k->Fp X k:=fun pre X Y hI hb=>stepG pre X Y hI (zi hb);have I0:Inv [] W:=⟨h0,UV _,hbW,hrf bx rfl⟩;refine⟨_,zc (za hbW) (i:=0) rfl,cmo (zpD hgW (UY _) hs) ?_⟩;rintro e Y ⟨t,a,op,ok,rfl,hok,hno,ha,hY,gY⟩;obtain⟨I1,_⟩:=stepG [] W Y I0 gY;refine zq (X:=Y) (v := .agg (js.enc t).toArray) zk2 rfl rfl rfl fun Z hbZ fZ sZ=>?_;have fZ:Z.heap[Y.heap.size]?=some (.cells (js.enc t).toArray 169 (0,0)):=fZ;obtain⟨I2,q2⟩:=stepB [] Y Z I1 hbZ;refine⟨List Tok×Nat×Nat×Bool×Bool×Tok×Nat,fun q=>⟨[(0,.func (.yield yl) #[] #[]),(1,At0 bx),(3,.pointer (some ⟨q.2.2.2.2.2.2,0,none⟩)),(4,.bool q.2.2.2.2.1)],[]⟩,
  fun q X=>Inv q.1 X/\(q.2.2.2.2.1=true->jf s=q.1++q.2.2.2.2.2.1::zcu s q.2.1 q.2.2.1 q.2.2.2.1)/\(q.2.2.2.2.1=false->jf s=q.1)/\(q.2.2.2.2.1=true->2*(s.length-q.2.2.1)+bOp q.2.2.2.1<q.2.1)/\q.2.2.1<=s.length/\ScV X g s q.2.2.1 q.2.2.2.1 /\
   X.heap[q.2.2.2.2.2.2]?=some (.cells (js.enc q.2.2.2.2.2.1).toArray 169 (0,0))/\W.heap.size<=q.2.2.2.2.2.2/\¬ Fp X q.2.2.2.2.2.2/\(q.2.2.2.2.1=true->(q.2.2.2.2.2.1.kind=3->q.2.2.2.2.2.1.text≠[])/\q.2.2.2.2.2.1.text.length<=s.length),
  fun q=>q.2.1,([],2*s.length+2,a,op,ok,t,Y.heap.size),(cvE rfl rfl),⟨I2,?_,?_,?_,ha,hY.below hbZ,fZ,gY.size,?_,?_⟩,?_⟩
 ·intro h1;exact zis (hok h1)
 ·intro h1;exact zir (hno h1)
 ·intro h3;have:=(zdv (hok h3) (UY _)).2.1;have h0:bOp false=0:=rfl;dsimp only;omega
 ·intro hf;have h9:Y.heap.size<Y.heap.size:=(hJ.lt _ _ _ I1.1 (q2 _ hf)).1;omega
 ·intro h1;exact (zdv (hok h1) (UY _)).2.2
 clear I2 q2 fZ hbZ sZ I1 gY hY hok hno ha;rintro⟨pre,f,a,op,ok,t,tb⟩ X ⟨hI,h1,h2,hf,ha,hX,ft,htb,hft,hgd⟩;dsimp only at hI h1 h2 hf ha hX ft htb hft hgd ⊢;refine biE (fun hok=>?_) fun hok=>?_
 ·have hok:ok=true:=hok;subst hok;have h1:=h1 rfl;have hf:=hf rfl;obtain⟨g1,g2⟩:=hgd rfl;have hpre:(pre++[t]) <+: jf s:=⟨zcu s f a op,by rw [h1];simp⟩;refine DrawE.ord [4] [0,1,2,3,4,5] (by kernel_rfl) ⟨_,rfl,za (hdr ft),hlt (hdr ft),_,rfl,za (hdr ft),hlt (hdr ft),cmo (zrS t g1 (by omega) X.drew) ?_⟩;rintro e U ⟨rfl,hbU⟩;refine⟨hbU,?_⟩;have hXU:Bw X U:=(Ga _ X).drew.trans hbU;obtain⟨IU,qU⟩:=stepB pre X U hI hXU;have fU:=zb hXU ft;have hU:=hX.below hXU;have hftU:¬ Fp U tb:=fun h=>hft (qU _ h);refine YieldR.mono (hy pre t _ U IU.1 ⟨t,by simp,rfl⟩ hpre) ?_;rintro v V (⟨rfl,hJV,hKV⟩ | ⟨rfl,hJV⟩)
  ·refine Gf (fun h=>by cases h) (fun _=>?_);have IU':=IU;obtain⟨_,iu2,iu3,iu4⟩:=IU';have hUs:=hKV.size;have hgF:¬ Fp U g:=fun h=>(hJ.lt _ _ _ IU.1 h).2 rfl;have hbV:V.heap[bx]?=_:=(hKV.same bx (hlt iu3) iu4).trans iu3;have hV:ScV V g s a op:=(hKV.same g (hlt hU) hgF).trans hU;have fV:=(hKV.same tb (hlt fU) hftU).trans fU;have nF:∀ k,k<U.heap.size->¬ Fp U k->¬ Fp V k:=fun k hk h1 h2=>by
    rcases hKV.fp k h2 with h3 | h3
    ·exact h1 h3
    ·omega
   have IV:Inv (pre++[t]) V:=⟨hJV,by omega,hbV,nF bx (hlt iu3) iu4⟩;refine⟨_,rfl,za fV,hlt fV,zq (X:=V) (v := .agg (js.enc t).toArray) zk2 rfl rfl rfl fun R hbR fR sR=>?_⟩;have fR:R.heap[V.heap.size]?=some (.cells (js.enc t).toArray 169 (0,0)):=fR;obtain⟨IR,qR⟩:=stepB (pre++[t]) V R IV hbR;have hnR:¬ Fp R V.heap.size:=fun h=>by have:=(hJ.lt _ _ _ IV.1 (qR _ h)).1;omega
   refine⟨_,zc (za IR.2.2.1) (i:=0) rfl,cmo (zpD (hV.below hbR) ha hs) ?_⟩;rintro e L ⟨t',a',op',ok',rfl,hok',hno',ha',hL,gL⟩;obtain⟨IL,qL⟩:=stepG (pre++[t]) R L IR gL;have hVs:W.heap.size<=V.heap.size:=IV.2.1;have hgV:g≠V.heap.size:=by omega
   have hbV2:bx≠V.heap.size:=by omega
   have fL:L.heap[V.heap.size]?=some (.cells (js.enc t).toArray 169 (0,0)):=(gL.block _ (hlt fR) (fun e=>hgV (by simpa using e.symm))).trans fR;refine zt (v := .agg (js.enc t').toArray) zk2 fL rfl rfl rfl ?_;obtain⟨f',rfl⟩:∃ f',f=f'+1:=⟨f-1,by omega⟩;have hnL:¬ Fp L V.heap.size:=fun h=>hnR (qL _ h);have hst:StepO W.heap.size (fun k=>k=g) Fp L (L.setRow V.heap.size (Value.agg (js.enc t').toArray).cells):=⟨rfl,rfl,rfl,by simp,fun k hk hf=>zp (fun e=>by
    subst e;rcases hf with hf | hf
    ·omega
    ·exact hnL hf)⟩
   obtain⟨j1,j2⟩:=hJ.step _ _ _ IL.1 hst;refine⟨(pre++[t],f',a',op',ok',t',V.heap.size),(cvE rfl rfl),⟨⟨j1,by simp;exact IL.2.1,(zp hbV2).trans IL.2.2.1,fun h=>IL.2.2.2 (j2 _ h)⟩,?_,?_,?_,ha',(zp hgV).trans hL,zn fL,hVs,fun h=>hnL (j2 _ h),?_⟩,by show f'<f'+1;omega⟩
   ·intro h3;rw [h1];show pre++t::zcu s (f'+1) a op=(pre++[t])++_;rw [zis (hok' h3)];simp
   ·intro h3;rw [h1];show pre++t::zcu s (f'+1) a op=pre++[t];rw [zir (hno' h3)]
   ·intro h3;have:=(zdv (hok' h3) ha).2.1;dsimp only;omega
   ·intro h3;exact (zdv (hok' h3) ha).2.2
  ·exact Gf (fun _=>Gf ⟨_,rfl⟩ (.inr ⟨_,hpre,hJV⟩)) (fun h=>by cases h)
 ·have hok:ok=false:=hok;subst hok;have h2:=h2 rfl;exact⟨⟨_,rfl⟩,.inl (by rw [h2];exact hI.1)⟩
def zdy (s:List UInt8):Bool:=decide (s.length<=16384)&&(jf s).all (fun t=>decide (jA t=0))
theorem zke {s:List UInt8}:∀ {f a:Nat} {op:Bool},(zcu s f a op).length<=f
 | 0,_,_=>UV _
 | f+1,a,op=>by
  unfold zcu
  split
  ·exact Nat.succ_le_succ zke
  ·exact UY _
def FpX (L:Nat) (X:Wd) (k:Nat):Prop:=k=L\/k=L+1\/k=L+2\/∃ a n cap,X.heap[L]?=some (.cells #[.slice (some a) n cap] 164 (0,0))/\k=a.block
structure ResX (L:Nat) (X:Wd) (v:Value) (pl er:Int):Prop where
 l:X.heap[L]?=some (.cells #[v] 164 (0,0))
 p:X.heap[L+1]?=some (.cells #[i64 pl] 3 (0,0))
 e:X.heap[L+2]?=some (.cells #[i64 er] 56 (0,0))
def JX (w:Wd) (L B:Nat) (pre:List Tok) (X:Wd):Prop:=Bw w X/\(∀ t∈pre,jA t=0)/\∃ p cap,ResX L X (.slice p pre.length cap) 0 0/\OwnS js 169 B X p cap pre
def JxX (w:Wd) (L:Nat) (pre:List Tok) (X:Wd):Prop:=Bw w X/\(∃ t∈pre,jA t≠0)/\∃ pl er,ResX L X (.slice none 0 0) pl er/\er≠0
theorem FpX.row {L:Nat} {X:Wd} {p:OA} {n cap:Nat} {pl er:Int} (h:ResX L X (.slice p n cap) pl er) {k:Nat} (hf:FpX L X k):k=L\/k=L+1\/k=L+2\/∃ a,p=some a/\k=a.block:=by
 rcases hf with hf | hf | hf | ⟨a,n',cap',h1,h2⟩
 ·exact .inl hf
 ·exact .inr (.inl hf)
 ·exact .inr (.inr (.inl hf))
 ·have:=h.l;rw [h1] at this;simp at this;exact .inr (.inr (.inr ⟨a,this.1.symm,h2⟩))
theorem ResX.same {L:Nat} {A B:Wd} {v:Value} {pl er:Int} (h:ResX L A v pl er) (hs:∀ k,k=L\/k=L+1\/k=L+2->B.heap[k]?=A.heap[k]?):ResX L B v pl er :=
 ⟨(hs L (.inl rfl)).trans h.l,(hs _ (.inr (.inl rfl))).trans h.p,(hs _ (.inr (.inr rfl))).trans h.e⟩
theorem JX.iter {w:Wd} {L B n0 g:Nat} (hw:w.heap.size<=L) (hL:L+2<g) (hg:g<n0) (hB:B=n0):IterJO n0 (fun k=>k=g) (FpX L) (JX w L B):=by
 subst hB;refine⟨fun pre A C ⟨hb,hf,p,cap,hr,ho⟩ hs=>?_,fun pre A k ⟨hb,hf,p,cap,hr,ho⟩ hk=>?_⟩
 ·have hr':ResX L C (.slice p pre.length cap) 0 0:=hr.same fun k hk=>hs.same k (by rcases hk with rfl | rfl | rfl;exact hlt hr.l;exact hlt hr.p;exact hlt hr.e) (.inl ⟨by omega,by omega⟩);have zfb:∀ a,p=some a->C.heap[a.block]?=A.heap[a.block]?:=fun a ha=>by
   rcases ho.inv with ⟨rfl,_⟩ | ⟨g',cur,rfl,_,hg',_⟩
   ·cases ha
   ·cases ha
    exact hs.same _ (hlt hg') (.inr (.inr (.inr (.inr ⟨_,_,_,hr.l,rfl⟩))))
  refine⟨⟨⟨hs.os.trans hb.os,hs.tape.trans hb.tape,hs.output.trans hb.output,UL hb.size hs.size,fun k hk=>(hs.same k (nL hk hb.size) (.inl ⟨by omega,by omega⟩)).trans (hb.block k hk)⟩,hf,p,cap,hr',ho.same zfb⟩,fun k hk=>?_⟩;rcases FpX.row hr' hk with rfl | rfl | rfl | ⟨a,rfl,rfl⟩
  ·exact .inl rfl
  ·exact .inr (.inl rfl)
  ·exact .inr (.inr (.inl rfl))
  ·exact .inr (.inr (.inr ⟨_,_,_,hr.l,rfl⟩))
 ·rcases FpX.row hr hk with rfl | rfl | rfl | ⟨a,rfl,rfl⟩
  ·exact⟨hlt hr.l,by omega⟩
  ·exact⟨hlt hr.p,by omega⟩
  ·exact⟨hlt hr.e,by omega⟩
  ·rcases ho.inv with ⟨h,_⟩ | ⟨g',cur,h,hB,hg',_⟩
   ·cases h
   ·cases h
    exact⟨hlt hg',by show ¬ g'=g;omega⟩
theorem JxX.iter {w:Wd} {L n0 g:Nat} (hw:w.heap.size<=L) (hL:L+2<g) (hg:g<n0):IterJO n0 (fun k=>k=g) (FpX L) (JxX w L):=by
 refine⟨fun pre A C ⟨hb,hf,pl,er,hr,he⟩ hs=>?_,fun pre A k ⟨hb,hf,pl,er,hr,he⟩ hk=>?_⟩
 ·have hr':ResX L C (.slice none 0 0) pl er:=hr.same fun k hk=>hs.same k (by rcases hk with rfl | rfl | rfl;exact hlt hr.l;exact hlt hr.p;exact hlt hr.e) (.inl ⟨by omega,by omega⟩);refine⟨⟨⟨hs.os.trans hb.os,hs.tape.trans hb.tape,hs.output.trans hb.output,UL hb.size hs.size,fun k hk=>(hs.same k (nL hk hb.size) (.inl ⟨by omega,by omega⟩)).trans (hb.block k hk)⟩,hf,pl,er,hr',he⟩,fun k hk=>?_⟩;rcases FpX.row hr' hk with rfl | rfl | rfl | ⟨a,h,_⟩
  ·exact .inl rfl
  ·exact .inr (.inl rfl)
  ·exact .inr (.inr (.inl rfl))
  ·cases h
 ·rcases FpX.row hr hk with rfl | rfl | rfl | ⟨a,h,_⟩
  ·exact⟨hlt hr.l,by omega⟩
  ·exact⟨hlt hr.p,by omega⟩
  ·exact⟨hlt hr.e,by omega⟩
  ·cases h
abbrev nl0:Value := .slice none 0 0
theorem zuJ (s:List UInt8) (hs:s.length<=140737488351232) (w:Wd) :
  Calls PG 96 #[qG s] w fun e w'=>∃ p cap n pl er,e = .returned (.tuple #[.slice p n cap,i64 pl,i64 er])/\(zdy s=true->er=0/\n=(jf s).length/\SlR js w' p (jf s))/\(zdy s=false->er≠0)/\Bw w w':=by
 refine qA 27 [qG s] (.c .p (.c .p .p)) Tryz.func96 ?_;obtain⟨L,hL⟩:=nm (w.heap.size);have z1:(w.alloc (.cells #[nl0] 164)).heap.size=L+1:=by rw [wz,hL]
 have z2:((w.alloc (.cells #[nl0] 164)).alloc (.cells #[i64 0] 3)).heap.size=L+2:=by rw [wz,z1]
 obtain⟨W0,hW0⟩:=nm (((w.alloc (.cells #[nl0] 164)).alloc (.cells #[i64 0] 3)).alloc (.cells #[i64 0] 56));have hb0:Bw w W0:=by rw [hW0];exact (((zba _ _)).alloc (by simp) _).alloc (by rw [z2];omega) _
 have hs0:W0.heap.size=L+3:=by rw [hW0,wz,z2]
 have r0:ResX L W0 nl0 0 0:=by
  rw [hW0];refine⟨?_,?_,?_⟩
  ·rw [hL];exact qM _ (qM _ (zw w _))
  ·rw [<- z1];exact qM _ (zw _ _)
  ·rw [<- z2];exact zw _ _
 have p1:some (Value.pointer (some ⟨(w.alloc (.cells #[nl0] 164)).heap.size,0,none⟩))=some (At0 (L+1)):=by rw [z1]
 have p2:some (Value.pointer (some ⟨((w.alloc (.cells #[nl0] 164)).alloc (.cells #[i64 0] 3)).heap.size,0,none⟩))=some (At0 (L+2)):=by rw [z2]
 have put3:∀ (X:Wd) (v0:Value) (a0 b0:Int),ResX L X v0 a0 b0->∀ (pl er:Int) (K:Wd->Prop),(∀ Y,ResX L Y (.slice none 0 0) pl er->Below w.heap.size X Y->X.heap.size=Y.heap.size->(∀ k,k≠L->k≠L+1->k≠L+2->Y.heap[k]?=X.heap[k]?)->K Y) ->
   SatR ((storeVar 164 ⟨L,0,none⟩ (.slice none 0 0)).run PG X) fun _ Y1=>SatR ((storeVar 3 ⟨L+1,0,none⟩ (i64 pl)).run PG Y1) fun _ Y2=>SatR ((storeVar 56 ⟨L+2,0,none⟩ (i64 er)).run PG Y2) fun _ Y3=>K Y3:=by
  intro X v0 a0 b0 hr pl er K k;refine zt (v := .slice none 0 0) zrE hr.l rfl rfl rfl ?_;have q1:(X.setRow L (Value.slice none 0 0).cells).heap[L+1]?=some (.cells #[i64 a0] 3 (0,0)):=(zp (by omega)).trans hr.p;refine zt (v:=i64 pl) k3 q1 rfl rfl rfl ?_;have q2:((X.setRow L (Value.slice none 0 0).cells).setRow (L+1) (i64 pl).cells).heap[L+2]?=some (.cells #[i64 b0] 56 (0,0)):=(zp (by omega)).trans ((zp (by omega)).trans hr.e);refine zt (v:=i64 er) k56 q2 rfl rfl rfl (k _ ⟨?_,?_,zn q2⟩ ?_ (by simp) ?_)
  ·exact (zp (by omega)).trans ((zp (by omega)).trans (zn hr.l))
  ·exact (zp (by omega)).trans (zn q1)
  ·exact zl (zl (zl (Ga _ X) (by omega) _) (by omega) _) (by omega) _
  ·intro k h1 h2 h3;exact (zp h3).trans ((zp h2).trans (zp h1))
 refine⟨Unit,fun _=>⟨[(0,qG s),(2,At0 L),(3,At0 (L+1)),(4,At0 (L+2))],[]⟩,fun _ X=>W0=X,?_,?_⟩
 ·exact⟨(),⟨.cons rfl (.cons (by rw [hL];rfl) (.cons p1 (.cons p2 .nil))),rfl⟩,hW0⟩
 clear hW0 p1 p2 z1 z2;rintro _ _ rfl;refine⟨Unit,fun _=>⟨[(0,qG s),(2,At0 L),(3,At0 (L+1)),(4,At0 (L+2))],[]⟩,fun _ X=>s.length<=16384/\W0=X,?_,?_⟩
 ·refine biE (fun h=>?_) fun h=>?_
  ·have h:(16384:Int)<(s.length:Int):=dT h;have hno:zdy s=false:=by unfold zdy;rw [Uf (by omega)];rfl
   exact put3 W0 _ _ _ r0 0 3 _ fun Y hY hb hsz _=>⟨_,zc (za hY.l) (i:=0) rfl,_,zc (za hY.p) (i:=0) rfl,_,zc (za hY.e) (i:=0) rfl,none,0,0,0,3,rfl,fun h=>(by rw [hno] at h;cases h),fun _=>by decide,hb0.trans hb⟩
  ·have h:¬ (16384:Int)<(s.length:Int):=dF h;exact⟨(),(cvE rfl rfl),by omega,rfl⟩
 rintro _ _ ⟨hln,rfl⟩;refine⟨[qG s,i64 0],rfl,[qG s,i64 0,.bool false],rfl,zq (X:=W0) (v := .agg #[qG s,i64 0,.bool false]) zu3 rfl rfl rfl fun V hbV fV sV=>?_⟩;have hV:ScV V W0.heap.size s 0 false:=fV;refine cmo zo6 ?_;rintro e W1 ⟨rfl,hW1⟩;have sW1:W1.heap.size=W0.heap.size+2:=by rw [hW1,wz,sV]
 have hb1:Bw V W1:=by rw [hW1];exact (zba _ _)
 have hbx:W1.heap[W0.heap.size+1]?=some (.cells #[.pointer (some ⟨W0.heap.size,0,none⟩)] 238 (0,0)):=by
  rw [hW1,<- sV];exact zw V _
 have hg1:ScV W1 W0.heap.size s 0 false:=hV.below hb1;have hb01:Bw W0 W1:=zst hbV hb1;have hbw1:Bw w W1:=zst hb0 hb01;have r1:ResX L W1 nl0 0 0:=r0.same fun k hk=>hb01.block k (by omega);have hlen:(jf s).length<=40000:=UL zke (by omega);have hok1:(∀ t∈jf s,jA t=0)->zdy s=true:=fun h=>by
  unfold zdy;rw [Uq hln,Uw,Qi];exact fun t ht=>Uq (h t ht)
 have hok2:(∃ t∈jf s,jA t≠0)->zdy s=false:=fun ⟨t,ht,hf⟩=>by
  unfold zdy;rw [Uq hln,Uw,KL];exact⟨t,ht,by simpa using hf⟩
 rw [sV];refine ztd (zbC _) rfl (lb := #[.pointer (some ⟨W0.heap.size+1,0,none⟩)]) rfl rfl (znV hg1 hbx (by omega) hs) (UV _) (fun k hk=>⟨by rcases hk with rfl | rfl <;> omega,rfl⟩) (fun pre vs W ⟨t,_,h⟩=>by rw [h];rfl) (by decide)
  (FpX L) (JX w L W1.heap.size) (fun ex pre X=>ex = .ret/\JxX w L pre X) ?_ (JX.iter (by omega) (by omega) (by omega) rfl) (fun ex=>?_) ?_ ?_ ?_ ?_
 ·intro k hk hf;rcases FpX.row r1 hf with h | h | h | ⟨a,h,_⟩
  ·omega
  ·omega
  ·omega
  ·cases h
 ·have hJ:=JxX.iter (w:=w) (L:=L) (n0:=W1.heap.size) (g:=W0.heap.size) (by omega) (by omega) (by omega);exact⟨fun pre A C ⟨h1,h2⟩ hs=>⟨⟨h1,(hJ.step _ _ _ h2 hs).1⟩,(hJ.step _ _ _ h2 hs).2⟩,fun pre A k ⟨_,h2⟩ hf=>hJ.lt _ _ _ h2 hf⟩
 ·exact⟨hbw1,fun t ht=>(by cases ht),none,0,r1,.nil⟩
 ·intro yl pre x vs W hyl hpre hJ hst hfy hly;obtain⟨t,ht,rfl⟩:=hst;have ht:t=x:=by simpa using ht.symm
  subst ht;have hIt:=JX.iter (w:=w) (L:=L) (B:=W1.heap.size) (n0:=W1.heap.size) (g:=W0.heap.size) (by omega) (by omega) (by omega) rfl;refine zq (X:=W) (v := .agg (js.enc t).toArray) zk2 rfl rfl rfl fun R hbR fR sR=>?_;have fR:R.heap[W.heap.size]?=some (.cells (js.enc t).toArray 169 (0,0)):=fR;obtain⟨jR,qR⟩:=hIt.step pre W R hJ (Step.of_below hbR).o;refine⟨rfl,Keeps.of_below hbR (fun k hk => .inl (qR k hk)),jR,?_⟩;rintro o W2 hW2 ⟨hbW,hfl,p,cap,hr,ho⟩ hF2;have f2:W2.heap[W.heap.size]?=some (.cells (js.enc t).toArray 169 (0,0)):=by rw [hW2,zj (by omega)];exact fR
  have s2:W2.heap.size=R.heap.size:=by rw [hW2];simp [World.putObj]
  have hLW:W1.heap.size<=W.heap.size:=by
   have:=hlt hr.l;obtain⟨hbW',_⟩:=hJ;omega
  refine biE (fun h=>?_) fun h=>?_
  ·have h:jA t≠0:=by
    have h1:(!decide (jA t=0))=true:=h;simpa using h1
   have hrd:ResX L W2.drew (.slice p pre.length cap) 0 0:=⟨hr.l,hr.p,hr.e⟩;have hd:W2.drew.heap.size=W2.heap.size:=rfl;have fin:∀ Y,ResX L Y (.slice none 0 0) t.pos (jA t)->Below w.heap.size W2.drew Y->W2.drew.heap.size=Y.heap.size->(∀ k,k≠L->k≠L+1->k≠L+2->Y.heap[k]?=W2.drew.heap[k]?)->(Exit.ret=Exit.ret/\JxX w L (pre++[t]) Y)/\Keeps (FpX L) W2 Y:=fun Y hY hbY hsY hoY=>by
    have hbY2:Bw w Y:=hbW.trans ((Ga w.heap.size W2).drew.trans hbY);refine⟨⟨rfl,hbY2,⟨t,by simp,h⟩,_,_,hY,h⟩,hbY.os,hbY.tape,hbY.output,by rw [<- hsY,hd];exact UV _,fun k hk hf=>hoY k (fun e=>hf (.inl e)) (fun e=>hf (.inr (.inl e))) (fun e=>hf (.inr (.inr (.inl e)))),fun k hk=>?_⟩;rcases FpX.row hY hk with h1 | h1 | h1 | ⟨a,h1,_⟩
    ·exact .inl (.inl h1)
    ·exact .inl (.inr (.inl h1))
    ·exact .inl (.inr (.inr (.inl h1)))
    ·cases h1
   refine DrawE.treeQ [3,4,5] (.op 0 (.op 2 (.alt (.op 3 (.op 1 (.op 4 (.op 5 .nil)))) (.op 1 (.op 3 (.op 4 (.op 5 .nil))))))) (by kernel_rfl) (Gf ?_ ?_)
   ·refine zt (v := .slice none 0 0) zrE hrd.l rfl rfl rfl ?_;have q0:(W2.drew.setRow L (Value.slice none 0 0).cells).heap[W.heap.size]?=some (.cells (js.enc t).toArray 169 (0,0)):=(zp (by omega)).trans (hdr f2);refine⟨_,zc (za q0) (i:=2) rfl,?_⟩;have q1:(W2.drew.setRow L (Value.slice none 0 0).cells).heap[L+1]?=some (.cells #[i64 0] 3 (0,0)):=(zp (by omega)).trans hrd.p;refine zt (v:=i64 t.pos) k3 q1 rfl rfl rfl ?_;have q2:((W2.drew.setRow L (Value.slice none 0 0).cells).setRow (L+1) (i64 t.pos).cells).heap[L+2]?=some (.cells #[i64 0] 56 (0,0)):=(zp (by omega)).trans ((zp (by omega)).trans hrd.e);refine zt (v:=i64 (jA t)) k56 q2 rfl rfl rfl (fin _ ⟨?_,?_,zn q2⟩ ?_ (by simp) ?_)
    ·exact (zp (by omega)).trans ((zp (by omega)).trans (zn hrd.l))
    ·exact (zp (by omega)).trans (zn q1)
    ·exact zl (zl (zl (Ga _ W2.drew) (by omega) _) (by omega) _) (by omega) _
    ·intro k h1 h2 h3;exact (zp h3).trans ((zp h2).trans (zp h1))
   ·exact⟨_,zc (za (hdr f2)) (i:=2) rfl,put3 W2.drew _ _ _ hrd t.pos (jA t) _ fin⟩
  ·have h:jA t=0:=by
    have h1:(!decide (jA t=0))=false:=h;simpa using h1
   refine⟨_,zc (za hr.l) (i:=0) rfl,_,rfl,za f2,hlt f2,⟨by decide,by decide,rfl⟩,js.enc t,za2 (js.len t) rfl,?_⟩;have hpl:pre.length+1<=40000:=by
    have:=hpre.length_le;simp at this;omega
   refine jJ (E:=js) (news:=[t]) (B:=W1.heap.size) Tryz.underlying164 zk2 rfl rfl rfl (ho.alloc _) rfl (qN js t) (by simp;omega) (by show pre.length+1<=_;omega) (by show (pre.length+1)*32<=_;omega) ?_;intro p3 cap3 W4 ho4 hg4 hb4 hat;have hL2:L<W2.heap.size:=hlt hr.l;have hr3:ResX L (W2.alloc (.cells (js.enc t).toArray 169)) (.slice p pre.length cap) 0 0:=⟨qM _ hr.l,qM _ hr.p,qM _ hr.e⟩;have hr4:ResX L W4 (.slice p pre.length cap) 0 0:=hr3.same fun k hk=>hb4.block k (by omega);refine zt (v := .slice p3 (pre++[t]).length cap3) zrE hr4.l rfl rfl rfl ?_;have hr5:ResX L (W4.setRow L (Value.slice p3 (pre++[t]).length cap3).cells) (.slice p3 (pre++[t]).length cap3) 0 0:=⟨zn hr4.l,(zp (by omega)).trans hr4.p,(zp (by omega)).trans hr4.e⟩;have hbB:Below w.heap.size W2 (W4.setRow L (Value.slice p3 (pre++[t]).length cap3).cells) :=
    zl (((Ga _ W2).alloc (by omega) _).trans (hb4.mono (by omega))) (by omega) _
   refine Gf ⟨hbW.trans hbB,fun u hu=>?_,p3,cap3,hr5,ho4.same fun a ha=>?_⟩ ⟨hbB.os,hbB.tape,hbB.output,hbB.size,fun k hk hf=>?_,fun k hk=>?_⟩
   ·rcases QQ.1 hu with hu | hu
    ·exact hfl u hu
    ·simp only [KA] at hu;rw [hu];exact h
   ·refine zp ?_;rcases ho4.inv with ⟨h1,_⟩ | ⟨g',_,h1,h2,_⟩
    ·rw [h1] at ha;cases ha
    ·rw [h1] at ha;cases ha;dsimp only;omega
   ·have h1:k≠L:=fun e=>hf (.inl e);rw [zp h1];refine (hg4.block k (by simp;omega) ?_).trans ?_
    ·intro e
     cases p with
     | none=>simp [Value.ownBlock] at e
     | some a =>
      simp only [Value.ownBlock,KY] at e;exact hf (.inr (.inr (.inr ⟨a,_,_,hr.l,e⟩)))
    ·show (W2.heap.push _)[k]?=_;rw [Array.getElem?_push,Gm (Nat.ne_of_lt hk)]
   ·rcases FpX.row hr5 hk with h1 | h1 | h1 | ⟨a,ha,rfl⟩
    ·exact .inl (.inl h1)
    ·exact .inl (.inr (.inl h1))
    ·exact .inl (.inr (.inr (.inl h1)))
    ·rcases hat a ha with h1 | h1
     ·exact .inl (.inr (.inr (.inr ⟨a,_,_,h1▸hr.l,rfl⟩)))
     ·refine .inr ?_;rw [h1];simp
 ·intro D W hD hfD hJ hdef;obtain⟨hbW,hfl,p,cap,hr,ho⟩:=hJ;refine⟨_,zc (za hr.l) (i:=0) rfl,zt (v := .slice p (jf s).length cap) zrE hr.l rfl rfl rfl ?_⟩;have q1:(W.setRow L (Value.slice p (jf s).length cap).cells).heap[L+1]?=some (.cells #[i64 0] 3 (0,0)):=(zp (by omega)).trans hr.p;refine zt (v:=i64 0) k3 q1 rfl rfl rfl ?_;have q2:((W.setRow L (Value.slice p (jf s).length cap).cells).setRow (L+1) (i64 0).cells).heap[L+2]?=some (.cells #[i64 0] 56 (0,0)):=(zp (by omega)).trans ((zp (by omega)).trans hr.e);refine zt (v:=i64 0) k56 q2 rfl rfl rfl ?_;obtain⟨S,hS⟩:=nm (((W.setRow L (Value.slice p (jf s).length cap).cells).setRow (L+1) (i64 0).cells).setRow (L+2) (i64 0).cells);have rS:ResX L S (.slice p (jf s).length cap) 0 0:=by
   rw [hS];exact⟨(zp (by omega)).trans ((zp (by omega)).trans (zn hr.l)),(zp (by omega)).trans (zn q1),zn q2⟩
  have bS:Below w.heap.size W S:=by rw [hS];exact zl (zl (zl (Ga _ W) (by omega) _) (by omega) _) (by omega) _
  have oS:∀ k,k≠L->k≠L+1->k≠L+2->S.heap[k]?=W.heap[k]?:=fun k h1 h2 h3=>by rw [hS];exact (zp h3).trans ((zp h2).trans (zp h1))
  have dS:S.heap[D]?=some (.deferred (some [])):=(oS D (by omega) (by omega) (by omega)).trans hdef;rw [<- hS];refine⟨_,rfl,dS,?_⟩;have rP:ResX L (S.putObj D (.deferred none)) (.slice p (jf s).length cap) 0 0:=rS.same fun k hk=>zj (by omega);refine⟨_,zc (za rP.l) (i:=0) rfl,_,zc (za rP.p) (i:=0) rfl,_,zc (za rP.e) (i:=0) rfl,p,cap,(jf s).length,0,0,rfl,fun _=>⟨rfl,rfl,?_⟩,fun h=>?_,je (hbW.trans bS) (by omega) _⟩
  ·exact (ho.same fun a ha=>by
    have hne:a.block≠L/\a.block≠L+1/\a.block≠L+2/\a.block≠D:=by
     rcases ho.inv with ⟨h1,_⟩ | ⟨g',_,h1,h2,h3,_⟩
     ·rw [h1] at ha;cases ha
     ·rw [h1] at ha;cases ha;refine⟨by dsimp only;omega,by dsimp only;omega,by dsimp only;omega,fun e=>?_⟩;have e:g'=D:=e;rw [e,hdef] at h3;cases h3
    exact (zj hne.2.2.2).trans (oS _ hne.1 hne.2.1 hne.2.2.1)).row
  ·rw [hok1 hfl] at h;cases h
 ·rintro D ex pre W hD hfD hpre ⟨rfl,hbW,⟨t,ht,hft⟩,pl,er,hr,her⟩ hdef;refine⟨_,rfl,hdef,?_⟩;have rP:ResX L (W.putObj D (.deferred none)) (.slice none 0 0) pl er:=hr.same fun k hk=>zj (by omega);refine⟨_,zc (za rP.l) (i:=0) rfl,_,zc (za rP.p) (i:=0) rfl,_,zc (za rP.e) (i:=0) rfl,none,0,0,pl,er,rfl,fun h=>?_,fun _=>her,je hbW (by omega) _⟩;rw [hok2 ⟨t,hpre.subset ht,hft⟩] at h;cases h
theorem zpU (s:List UInt8) (hs:s.length<=140737488351232) (w:Wd):CB 60 #[qG s] w (.bool (zc4 s)):=by
 refine zI 34 [qG s] Tryz.func60 ?_;have hdef:zc4 s=(zdy s&&zo4 (jf s) s):=by
  unfold zc4 zdy;rw [Bool.and_assoc]
 refine cmo (zuJ s hs w) ?_;rintro e V ⟨p,cap,n,pl,er,rfl,h1,h2,hb⟩
 cases hk:zdy s with
 | false =>
  have her:=h2 hk;rw [hdef,hk,Uh];exact brN (by exact Uf her) (brF (brF ⟨rfl,hb⟩))
 | true =>
  obtain⟨rfl,rfl,hr⟩:=h1 hk;rw [hdef,hk,Uw];refine brT (biE (fun h=>?_) fun h=>?_)
  ·have h:(jf s).length=2:=by have h:((jf s).length:Int)=2:=dT h;omega
   match hx:jf s,h with
   | [t,u],_ =>
    rw [hx] at hr;obtain⟨b,o,rfl,hbb,hc⟩:=hr.at (i:=0) (by simp);have hc:=hc 0 (by simp);refine⟨0,rfl,(by show 0<2;omega),_,zc hc (i:=0) rfl,?_⟩;have kd:decide ((t.kind.toNat:Int)=1)=decide (t.kind=1):=(by rw [QE];exact qu (y:=1));refine biE (fun h=>?_) fun h=>?_
    ·have h:decide (t.kind=1)=true:=kd.symm.trans h;exact⟨0,rfl,(by show 0<2;omega),_,zc hc (i:=1) rfl,_,fun w=>jp _ _ t.text s w,rb (by unfold zo4;simp only [h,Uw]),hb⟩
    ·have h:decide (t.kind=1)=false:=kd.symm.trans h;exact⟨rb (by unfold zo4;simp only [h,Uh]),hb⟩
  ·have h:¬ (jf s).length=2:=by have h:¬ ((jf s).length:Int)=2:=dF h;omega
   refine brF ⟨rb ?_,hb⟩;have gen:∀ l:List Tok,¬ l.length=2->false=zo4 l s:=fun l hl=>by
    match l,hl with
    | [],_=>rfl
    | [_],_=>rfl
    | [_,_],hl=>exact Gp rfl hl
    | _::_::_::_,_=>rfl
   exact gen _ h
theorem zue (s:List UInt8) (w:Wd):Calls PG 132 #[qG s] w fun e w'=>e = .returned (.bool (zhD s))/\w=w':=by
 refine zI 22 [qG s] Tryz.func132 ?_;refine⟨_,fun w=>jp _ _ s [116,101,115,116] w,?_⟩;refine biE (fun h=>?_) fun h0=>?_
 ·refine brE h ?_;exact⟨rb (Qj.2 ⟨[116,101,115,116],by decide,h⟩).symm,rfl⟩
 refine⟨_,fun w=>jp _ _ s [105,110,105,116] w,?_⟩;refine biE (fun h=>?_) fun h1=>?_
 ·refine brE h ?_;exact⟨rb (Qj.2 ⟨[105,110,105,116],by decide,h⟩).symm,rfl⟩
 refine⟨_,fun w=>jp _ _ s [116,104,114,101,97,100] w,?_⟩;refine biE (fun h=>?_) fun h2=>?_
 ·refine brE h ?_;exact⟨rb (Qj.2 ⟨[116,104,114,101,97,100],by decide,h⟩).symm,rfl⟩
 refine⟨_,fun w=>jp _ _ s [115,111,109,101] w,?_⟩;refine biE (fun h=>?_) fun h3=>?_
 ·refine brE h ?_;exact⟨rb (Qj.2 ⟨[115,111,109,101],by decide,h⟩).symm,rfl⟩
 refine⟨_,fun w=>jp _ _ s [110,111,110,101] w,?_⟩;refine biE (fun h=>?_) fun h4=>?_
 ·refine brE h ?_;exact⟨rb (Qj.2 ⟨[110,111,110,101],by decide,h⟩).symm,rfl⟩
 refine⟨_,fun w=>jp _ _ s [97,108,108] w,?_⟩;refine biE (fun h=>?_) fun h5=>?_
 ·refine brE h ?_;exact⟨rb (Qj.2 ⟨[97,108,108],by decide,h⟩).symm,rfl⟩
 refine⟨_,fun w=>jp _ _ s [97,99,113] w,?_⟩;refine biE (fun h=>?_) fun h6=>?_
 ·refine brE h ?_;exact⟨rb (Qj.2 ⟨[97,99,113],by decide,h⟩).symm,rfl⟩
 refine⟨_,fun w=>jp _ _ s [114,101,108] w,?_⟩;refine biE (fun h=>?_) fun h7=>?_
 ·refine brE h ?_;exact⟨rb (Qj.2 ⟨[114,101,108],by decide,h⟩).symm,rfl⟩
 refine⟨_,fun w=>jp _ _ s [115,119,97,112] w,?_⟩;refine biE (fun h=>?_) fun h8=>?_
 ·refine brE h ?_;exact⟨rb (Qj.2 ⟨[115,119,97,112],by decide,h⟩).symm,rfl⟩
 refine⟨_,fun w=>jp _ _ s [102,101,116,99,104] w,?_⟩;refine biE (fun h=>?_) fun h9=>?_
 ·refine brE h ?_;exact⟨rb (Qj.2 ⟨[102,101,116,99,104],by decide,h⟩).symm,rfl⟩
 refine⟨_,fun w=>jp _ _ s [99,97,115] w,?_⟩;refine biE (fun h=>?_) fun h10=>?_
 ·refine brE h ?_;exact⟨rb (Qj.2 ⟨[99,97,115],by decide,h⟩).symm,rfl⟩
 refine⟨_,fun w=>jp _ _ s [102,101,110,99,101] w,?_⟩;refine biE (fun h=>?_) fun h11=>?_
 ·refine brE h ?_;exact⟨rb (Qj.2 ⟨[102,101,110,99,101],by decide,h⟩).symm,rfl⟩
 refine⟨_,fun w=>jp _ _ s [108,111,97,100,115] w,?_⟩;refine biE (fun h=>?_) fun h12=>?_
 ·refine brE h ?_;exact⟨rb (Qj.2 ⟨[108,111,97,100,115],by decide,h⟩).symm,rfl⟩
 refine⟨_,fun w=>jp _ _ s [115,116,111,114,101,115] w,?_⟩;refine biE (fun h=>?_) fun h13=>?_
 ·refine brE h ?_;exact⟨rb (Qj.2 ⟨[115,116,111,114,101,115],by decide,h⟩).symm,rfl⟩
 refine⟨_,fun w=>jp _ _ s [115,107,105,112] w,?_⟩;refine biE (fun h=>?_) fun h14=>?_
 ·refine brE h ?_;exact⟨rb (Qj.2 ⟨[115,107,105,112],by decide,h⟩).symm,rfl⟩
 refine⟨_,fun w=>jp _ _ s [105,102] w,?_⟩;refine biE (fun h=>?_) fun h15=>?_
 ·refine brE h ?_;exact⟨rb (Qj.2 ⟨[105,102],by decide,h⟩).symm,rfl⟩
 refine⟨_,fun w=>jp _ _ s [116,114,117,101] w,?_⟩;refine biE (fun h=>?_) fun h16=>?_
 ·exact⟨rb (Qj.2 ⟨[116,114,117,101],by decide,h⟩).symm,rfl⟩
 exact⟨rb (by unfold zhD zsO;simp only [Uz,List.any_nil,h0,h1,h2,h3,h4,h5,h6,h7,h8,h9,h10,h11,h12,h13,h14,h15,h16];rfl),rfl⟩
theorem zub (s:List UInt8) (hs:s.length<=140737488351232) (w:Wd):Calls PG 97 #[qG s] w fun e w'=>e = .returned (.bool (ze6 s))/\w=w':=by
 refine qA 55 [qG s] (.s .p (.c .p (.s .p (.c .p .p)))) Tryz.func97 ?_;refine⟨Unit,fun _=>⟨[(0,qG s)],[]⟩,fun _ X=>(∃ c r,s=c::r/\r.length+1<=16/\ql c=3/\zhD s=false)/\w=X,?_,?_⟩
 ·refine biE (fun h=>?_) fun h=>?_
  ·have h:(s.length:Int)<1:=dT h;have h0:s=[]:=Jf (by omega);subst h0;refine brT ?_;refine brT ?_;refine brT ?_;exact⟨rfl,rfl⟩
  have h:¬ (s.length:Int)<1:=dF h;obtain⟨c,r,rfl⟩:∃ c r,s=c::r:=by
   cases s with
   | nil=>simp at h
   | cons c r=>exact⟨c,r,rfl⟩
  have hdef:ze6 (c::r)=(decide (r.length+1<=16)&&(decide (ql c=3)&&(!zhD (c::r)&&(r.all qJ&&(!decide (c=114)||(decide (jd r=0)||decide (jd r<r.length))))))):=rfl;have hsz:(((bs (c::r)).size:Nat):Int)=(r.length+1:Nat):=rfl;refine biE (fun h2=>?_) fun h2=>?_
  ·have h2:(16:Int)<((r.length+1:Nat):Int):=dT h2;refine brT ?_;refine brT ?_;exact⟨rb (by rw [hdef,Uf (by omega)];rfl),rfl⟩
  have h2:¬ (16:Int)<((r.length+1:Nat):Int):=dF h2;refine⟨0,rfl,Nat.succ_pos _,c,rfl,?_⟩;refine cmo (zac c _) ?_;rintro e _ ⟨rfl,rfl⟩;refine biE (fun h3=>?_) fun h3=>?_
  ·have h3:¬ ql c=3:=by
    have h1:(!decide ((ql c:Int)=3))=true:=h3;simp at h1;omega
   refine brT ?_;exact⟨rb (by rw [hdef,Uf h3];simp),rfl⟩
  have h3:ql c=3:=by
   have h1:(!decide ((ql c:Int)=3))=false:=h3;simp at h1;omega
  refine cmo (zue (c::r) _) ?_;rintro e _ ⟨rfl,rfl⟩;refine biE (fun h4=>?_) fun h4=>?_
  ·have h4:zhD (c::r)=true:=h4;exact⟨rb (by rw [hdef,h4];simp),rfl⟩
  ·exact⟨(),(cvE rfl rfl),⟨c,r,rfl,by omega,h3,h4⟩,rfl⟩
 rintro _ _ ⟨⟨c,r,rfl,h1,h3,h4⟩,rfl⟩;have hdef:ze6 (c::r)=(r.all qJ&&(!decide (c=114)||(decide (jd r=0)||decide (jd r<r.length)))):=by
  show (decide (r.length+1<=16)&&(decide (ql c=3)&&(!zhD (c::r)&&(r.all qJ&&(!decide (c=114)||(decide (jd r=0)||decide (jd r<r.length)))))))=_;rw [Uq h1,Uq h3,h4];rfl
 rw [hdef];refine⟨Unit,fun _=>⟨[(0,qG (c::r)),(3,i64 (jd r:Nat))],[]⟩,fun _ X=>r.all qJ=true/\w=X,?_,?_⟩
 ·refine⟨Nat,fun k=>⟨[(0,qG (c::r)),(3,i64 (jd (r.take k):Nat)),(4,i64 (k+1:Nat))],[]⟩,fun k X=>k<=r.length/\(∀ d∈r.take k,qJ d=true)/\jd (r.take k)<=k/\w=X,fun k=>r.length-k,0,(cvE rfl rfl),⟨UY _,by simp,UV _,rfl⟩,?_⟩;rintro k _ ⟨hk,hw,hdk,rfl⟩;dsimp only at hk hw hdk ⊢;refine biE (fun hc=>?_) fun hc=>?_
  ·have hc:((k+1:Nat):Int)<((r.length+1:Nat):Int):=dT hc;have hl:k<r.length:=by omega
   have hat:(bs (c::r)).data.toList[k+1]?=some r[k]:=by
    show (c::r)[k+1]?=_;rw [Jw,gE hl]
   refine⟨k+1,rfl,(by show k+1<r.length+1;omega),r[k],hat,?_⟩;refine cmo (zk4 _ _) ?_;rintro e _ ⟨rfl,rfl⟩;refine biE (fun hi=>?_) fun hi=>?_
   ·have hi:(!qJ r[k])=true:=hi;have hi:qJ r[k]=false:=(by simpa using hi);have:r.all qJ=false:=by
     rw [KL];exact⟨r[k],gM _,by rw [hi];simp⟩
    exact⟨rb (by rw [this];rfl),rfl⟩
   have hi:(!qJ r[k])=false:=hi;have hi:qJ r[k]=true:=by simpa using hi
   have hw':∀ d∈r.take (k+1),qJ d=true:=by
    rw [tsg hl];intro d hd;rcases QQ.1 hd with hd | hd
    ·exact hw d hd
    ·simp only [KA] at hd;rw [hd];exact hi
   have hds:jd (r.take (k+1))=jd (r.take k)+(if zbu r[k]=true then 1 else 0):=by
    unfold jd;rw [tsg hl,Kv,lap];congr 1;by_cases h:zbu r[k]=true
    ·rw [Gn h,List.filter_cons_of_pos h];rfl
    ·rw [Gm h,List.filter_cons_of_neg h];rfl
   refine⟨k+1,rfl,(by show k+1<r.length+1;omega),r[k],hat,?_⟩;refine cmo (zac _ _) ?_;rintro e _ ⟨rfl,rfl⟩;have hd:decide ((ql r[k]:Int)=4)=zbu r[k]:=zca (b:=4);refine biE (fun hg=>?_) fun hg=>?_
   ·have hg:zbu r[k]=true:=hd.symm.trans hg;rw [Gn hg] at hds;refine⟨(jd (r.take (k+1)):Int),(ze (by omega)).trans (by omega),?_⟩;refine⟨((k+1+1:Nat):Int),(ze (by omega)).trans (by omega),?_⟩;exact⟨k+1,(cvE rfl rfl),⟨hl,hw',by omega,rfl⟩,zdc (by omega)⟩
   ·have hg:¬ zbu r[k]=true:=(by rw [Qh];exact hd.symm.trans hg);rw [Gm hg] at hds;refine⟨((k+1+1:Nat):Int),(ze (by omega)).trans (by omega),?_⟩;exact⟨k+1,⟨.cons rfl (.cons (by rw [hds];rfl) (.cons rfl .nil)),rfl⟩,⟨hl,hw',by omega,rfl⟩,zdc (by omega)⟩
  ·have hc:¬ ((k+1:Nat):Int)<((r.length+1:Nat):Int):=dF hc;obtain rfl:k=r.length:=by omega
   rw [Qv] at hw;exact⟨(),⟨.cons rfl (.cons (by rw [Qv];rfl) .nil),rfl⟩,Qi.2 hw,rfl⟩
 rintro _ _ ⟨hall,rfl⟩;rw [hall,Uw];have hdl:jd r<=r.length:=JL _ _;refine⟨0,rfl,Nat.succ_pos _,c,rfl,?_⟩;have cd:decide ((c.toNat:Int)=114)=decide (c=114):=by rw [QE];exact qu (y:=114)
 refine biE (fun h=>?_) fun h=>?_
 ·have h:(!decide (c=114))=true:=by
   have h:(!decide ((c.toNat:Int)=114))=true:=h
   rwa [cd] at h
  refine brT ?_;exact⟨rb (by rw [h];rfl),rfl⟩
 have h:(!decide (c=114))=false:=by
  have h:(!decide ((c.toNat:Int)=114))=false:=h
  rwa [cd] at h
 rw [h,Ut];refine biE (fun h5=>?_) fun h5=>?_
 ·have h5:jd r=0:=by have h5:(jd r:Int)=0:=dT h5;omega
  exact⟨rb (by rw [Uq h5];rfl),rfl⟩
 have h5:¬ jd r=0:=by have h5:¬ (jd r:Int)=0:=dF h5;omega
 refine⟨(r.length:Nat),(ze (by show -9223372036854775808<=((r.length+1:Nat):Int)-1/\((r.length+1:Nat):Int)-1<=9223372036854775807;omega)).trans (by show ((r.length+1:Nat):Int)-1=_;omega),?_⟩;exact⟨rb (by rw [Uf h5,Ut,QE];omega),rfl⟩
theorem zsE (p:OA) (cap:Nat) (l:List (List UInt8)) (s:List UInt8) (w:Wd) (hl:SlR zl7 w p l) (hn:l.length<=140737488351232) :
  Calls PG 134 #[.slice p l.length cap,qG s] w fun e w'=>∃ n:Int,e = .returned (i64 n)/\decide (0<=n)=l.any (fun q=>decide (q=s))/\w=w':=by
 refine zI 19 [.slice p l.length cap,qG s] Tryz.func134 ?_;refine⟨Nat,fun k=>⟨[(0,.slice p l.length cap),(1,qG s),(7,i64 l.length),(8,i64 (k:Nat))],[]⟩,fun k X=>k<=l.length/\(∀ q∈l.take k,¬ q=s)/\w=X,fun k=>l.length-k,0,(cvE rfl rfl),⟨UY _,by simp,rfl⟩,?_⟩;rintro k _ ⟨hk,hno,rfl⟩;dsimp only at hk hno ⊢;refine biE (fun hc=>?_) fun hc=>?_
 ·have hc:(k:Int)<(l.length:Int):=dT hc;have hkl:k<l.length:=by omega
  obtain⟨b,o,rfl,hb,hat⟩:=hl.at hkl;refine⟨k,rfl,hkl,?_⟩;refine⟨_,zc (hat k hkl) (i:=0) rfl,?_⟩;refine⟨_,fun w=>jp _ _ s l[k] w,?_⟩;refine biE (fun h=>?_) fun h=>?_
  ·have h:s=l[k]:=dT h;refine⟨k,rfl,?_,rfl⟩;rw [Uq (by omega)];symm;rw [Qj];exact⟨l[k],gM _,Uq h.symm⟩
  ·have h:¬ s=l[k]:=dF h;refine⟨(k+1:Nat),(ze (by omega)).trans (by omega),?_⟩;refine⟨k+1,(cvE rfl rfl),⟨hkl,?_,rfl⟩,zdc (by omega)⟩;rw [tsg hkl];intro q hq;rcases QQ.1 hq with hq | hq
   ·exact hno q hq
   ·simp only [KA] at hq;rw [hq];exact fun e=>h e.symm
 ·have hc:¬ (k:Int)<(l.length:Int):=dF hc;obtain rfl:k=l.length:=by omega
  rw [Qv] at hno;refine⟨-1,rfl,?_,rfl⟩;symm;show _=false;rw [KM];exact fun q hq=>by simpa using hno q hq
theorem zmy (p:OA) (cap:Nat) (l:List (List UInt8)) (s:List UInt8) (w:Wd) (hl:SlR zl7 w p l) (hn:l.length<=140737488351232) :
  Calls PG 98 #[.slice p l.length cap,qG s] w fun e w'=>e = .returned (.bool (l.any fun q=>decide (q=s)))/\w=w':=by
 refine zI 9 [.slice p l.length cap,qG s] Tryz.func98 ?_;refine cmo (zsE p cap l s w hl hn) ?_;rintro e _ ⟨n,rfl,h,rfl⟩;exact⟨rb h,rfl⟩
def GlobC (w : Wd) : Prop := zK w ⟨0, 0, none⟩ (ze4.map u8)
theorem GlobC.below {w w2 : Wd} (h : GlobC w) (hb : Below w.heap.size w w2) : GlobC w2 := zr hb h
def spC (x : InsD) (locs after : Nat) : List Value := [u8 x.op, u8 x.dst, u8 x.loc, .bool x.ar, u8 x.an, .bool x.br, u8 x.bn, u8 x.fn, u8 x.mode, u8 x.skip, i64 locs, i64 after]
theorem u8d (x k : UInt8) : decide ((x.toNat : Int) = (k.toNat : Int)) = decide (x = k) := by rw [QE]; exact qu
theorem zs1 (a b : UInt8) : IntKind.u8.wrap ((BitVec.ofInt IntKind.u8.bits (a.toNat : Int) &&& BitVec.ofInt IntKind.u8.bits (b.toNat : Int)).toNat : Int) = ((a &&& b).toNat : Int) := by
  have h : ∀ x : UInt8, BitVec.ofInt 8 (x.toNat : Int) = x.toBitVec := fun x => by
    apply BitVec.eq_of_toNat_eq
    rw [Ks]
    have := x.toNat_lt
    show ((x.toNat : Int) % (2 ^ 8 : Nat)).toNat = x.toNat
    omega
  show IntKind.u8.wrap ((BitVec.ofInt 8 (a.toNat : Int) &&& BitVec.ofInt 8 (b.toNat : Int)).toNat : Int) = _
  rw [h, h]
  have e : (a.toBitVec &&& b.toBitVec).toNat = (a &&& b).toNat := rfl
  rw [e]
  have := (a &&& b).toNat_lt
  exact zeK (by omega)
theorem zfc {g locs after : Nat} {x : InsD} {w : Wd} (bit : UInt8) (h : zK w ⟨g, 0, none⟩ (spC x locs after)) (hop : x.op.toNat ≤ 8) (hG : GlobC w) :
    Calls PG 140 #[.pointer (some ⟨g, 0, none⟩), u8 bit] w fun e w' => e = .returned (.bool (jN x.op bit)) ∧ w = w' := by
  refine jz (S := sg 15) (zbC _) (args := [.pointer (some ⟨g, 0, none⟩), u8 bit]) Tryz.func140 rfl rfl (JR rfl) rfl ?_
  refine ⟨_, zc h (i := 0) rfl, ?_⟩
  refine ⟨x.op.toNat, rfl, (by show x.op.toNat < 9; omega), ?_⟩
  have hn : (ze4.map u8)[x.op.toNat]? = some (u8 (ze4.getD x.op.toNat 0)) := by
    have hl : x.op.toNat < ze4.length := by show _ < 9; omega
    rw [KT, Jv hl, Jm, Jv hl]; rfl
  refine ⟨u8 (ze4.getD x.op.toNat 0), by rw [UW]; exact zc hG hn, ?_⟩
  refine ⟨((ze4.getD x.op.toNat 0 &&& bit).toNat : Int), zs1 _ _, ?_⟩
  exact ⟨rb (by unfold jN; rw [← u8d]; rfl), rfl⟩
theorem zh6 (r : Bool) (n : UInt8) (w : Wd) : Calls PG 142 #[.agg #[.bool r, u8 n]] w fun e w' => e = .returned (.bool (zj0 r n)) ∧ Below w.heap.size w w' := by
  refine jz (S := sg 11) (zbC _) (args := [.agg #[.bool r, u8 n]]) Tryz.func142 rfl rfl (JR rfl) rfl ?_
  have hb0 : Below w.heap.size w (w.alloc (.cells #[.bool r, u8 n] 53)) := (Ga _ _).alloc (UV _) _
  have c0 := za (zw w (.cells #[.bool r, u8 n] 53))
  refine ⟨_, zc c0 (i := 0) rfl, ?_⟩
  cases r with
  | false =>
    refine brT ?_
    exact ⟨rfl, hb0⟩
  | true =>
    refine brF ?_
    refine ⟨_, zc c0 (i := 1) rfl, ?_⟩
    refine ⟨rb ?_, hb0⟩
    show decide ((n.toNat : Int) < 8) = decide (n.toNat < 8)
    rw [QE]; omega
theorem zkU {g locs after : Nat} {x : InsD} {w : Wd} (h : zK w ⟨g, 0, none⟩ (spC x locs after)) :
    Calls PG 143 #[.pointer (some ⟨g, 0, none⟩)] w fun e w' => e = .returned (.bool (ze7 x)) ∧ w = w' := by
  refine jz (S := sg 64) (zbC _) (args := [.pointer (some ⟨g, 0, none⟩)]) Tryz.func143 rfl rfl (JR rfl) rfl ?_
  refine ⟨_, zc h (i := 0) rfl, ?_⟩
  refine Gf (fun h1 => ?_) (fun h1 => ?_)
  · have h1 : x.op = 1 := Qb ((u8d x.op 1).symm.trans h1)
    have e : ze7 x = (decide (x.mode = 0) || decide (x.mode = 1)) := by unfold ze7; rw [Gn h1]
    rw [e, ← u8d, ← u8d]
    refine ⟨_, zc h (i := 8) rfl, ?_⟩
    refine Gf (fun h2 => ?_) (fun h2 => ?_)
    · exact ⟨rb (by have h2 : decide ((x.mode.toNat : Int) = ((0 : UInt8).toNat : Int)) = true := h2
                    rw [h2]; rfl), rfl⟩
    · refine ⟨_, zc h (i := 8) rfl, ?_⟩
      exact ⟨rb (by have h2 : decide ((x.mode.toNat : Int) = ((0 : UInt8).toNat : Int)) = false := h2
                    rw [h2]; rfl), rfl⟩
  have h1 : ¬ x.op = 1 := KI ((u8d x.op 1).symm.trans h1)
  refine Gf (fun h2 => ?_) (fun h2 => ?_)
  · have h2 : x.op = 2 := Qb ((u8d x.op 2).symm.trans h2)
    have e : ze7 x = (decide (x.mode = 0) || decide (x.mode = 2)) := by unfold ze7; rw [Gm h1, Gn h2]
    rw [e, ← u8d, ← u8d]
    refine ⟨_, zc h (i := 8) rfl, ?_⟩
    refine Gf (fun h2 => ?_) (fun h2 => ?_)
    · exact ⟨rb (by have h2 : decide ((x.mode.toNat : Int) = ((0 : UInt8).toNat : Int)) = true := h2
                    rw [h2]; rfl), rfl⟩
    · refine ⟨_, zc h (i := 8) rfl, ?_⟩
      exact ⟨rb (by have h2 : decide ((x.mode.toNat : Int) = ((0 : UInt8).toNat : Int)) = false := h2
                    rw [h2]; rfl), rfl⟩
  have h2 : ¬ x.op = 2 := KI ((u8d x.op 2).symm.trans h2)
  refine Gf (fun h3 => ?_) (fun h3 => ?_)
  · have h3 : x.op = 7 := Qb ((u8d x.op 7).symm.trans h3)
    have e : ze7 x = (decide (x.mode = 3) || (decide (x.mode = 4) || decide (x.mode = 5))) := by unfold ze7; rw [Gm h1, Gm h2, Gn h3]
    rw [e, ← u8d, ← u8d, ← u8d]
    refine ⟨_, zc h (i := 8) rfl, ?_⟩
    refine Gf (fun h4 => ?_) (fun h4 => ?_)
    · refine brT ?_
      exact ⟨rb (by have h4 : decide ((x.mode.toNat : Int) = ((3 : UInt8).toNat : Int)) = true := h4
                    rw [h4]; rfl), rfl⟩
    have h4 : decide ((x.mode.toNat : Int) = ((3 : UInt8).toNat : Int)) = false := h4
    refine ⟨_, zc h (i := 8) rfl, ?_⟩
    refine Gf (fun h5 => ?_) (fun h5 => ?_)
    · exact ⟨rb (by have h5 : decide ((x.mode.toNat : Int) = ((4 : UInt8).toNat : Int)) = true := h5
                    rw [h4, h5]; rfl), rfl⟩
    have h5 : decide ((x.mode.toNat : Int) = ((4 : UInt8).toNat : Int)) = false := h5
    refine ⟨_, zc h (i := 8) rfl, ?_⟩
    exact ⟨rb (by rw [h4, h5]; rfl), rfl⟩
  have h3 : ¬ x.op = 7 := KI ((u8d x.op 7).symm.trans h3)
  exact ⟨rb (by unfold ze7; rw [Gm h1, Gm h2, Gm h3]), rfl⟩
theorem zou {g locs after : Nat} {x : InsD} {w : Wd} (h : zK w ⟨g, 0, none⟩ (spC x locs after)) :
    Calls PG 144 #[.pointer (some ⟨g, 0, none⟩)] w fun e w' => e = .returned (.bool (fnL x)) ∧ w = w' := by
  refine jz (S := sg 56) (zbC _) (args := [.pointer (some ⟨g, 0, none⟩)]) Tryz.func144 rfl rfl (JR rfl) rfl ?_
  refine ⟨_, zc h (i := 0) rfl, ?_⟩
  refine Gf (fun h1 => ?_) (fun h1 => ?_)
  · have h1 : x.op = 3 := Qb ((u8d x.op 3).symm.trans h1)
    have e : fnL x = (decide (x.fn = 1) || (decide (x.fn = 2) || decide (x.fn = 3))) := by unfold fnL; rw [Gn h1]
    rw [e, ← u8d, ← u8d, ← u8d]
    refine ⟨_, zc h (i := 7) rfl, ?_⟩
    refine Gf (fun h4 => ?_) (fun h4 => ?_)
    · refine brT ?_
      exact ⟨rb (by have h4 : decide ((x.fn.toNat : Int) = ((1 : UInt8).toNat : Int)) = true := h4
                    rw [h4]; rfl), rfl⟩
    have h4 : decide ((x.fn.toNat : Int) = ((1 : UInt8).toNat : Int)) = false := h4
    refine ⟨_, zc h (i := 7) rfl, ?_⟩
    refine Gf (fun h5 => ?_) (fun h5 => ?_)
    · exact ⟨rb (by have h5 : decide ((x.fn.toNat : Int) = ((2 : UInt8).toNat : Int)) = true := h5
                    rw [h4, h5]; rfl), rfl⟩
    have h5 : decide ((x.fn.toNat : Int) = ((2 : UInt8).toNat : Int)) = false := h5
    refine ⟨_, zc h (i := 7) rfl, ?_⟩
    exact ⟨rb (by rw [h4, h5]; rfl), rfl⟩
  have h1 : ¬ x.op = 3 := KI ((u8d x.op 3).symm.trans h1)
  refine Gf (fun h2 => ?_) (fun h2 => ?_)
  · have h2 : x.op = 8 := Qb ((u8d x.op 8).symm.trans h2)
    have e : fnL x = (decide (x.fn = 4) || (decide (x.fn = 5) || decide (x.fn = 6))) := by unfold fnL; rw [Gm h1, Gn h2]
    rw [e, ← u8d, ← u8d, ← u8d]
    refine ⟨_, zc h (i := 7) rfl, ?_⟩
    refine Gf (fun h4 => ?_) (fun h4 => ?_)
    · refine brT ?_
      exact ⟨rb (by have h4 : decide ((x.fn.toNat : Int) = ((4 : UInt8).toNat : Int)) = true := h4
                    rw [h4]; rfl), rfl⟩
    have h4 : decide ((x.fn.toNat : Int) = ((4 : UInt8).toNat : Int)) = false := h4
    refine ⟨_, zc h (i := 7) rfl, ?_⟩
    refine Gf (fun h5 => ?_) (fun h5 => ?_)
    · exact ⟨rb (by have h5 : decide ((x.fn.toNat : Int) = ((5 : UInt8).toNat : Int)) = true := h5
                    rw [h4, h5]; rfl), rfl⟩
    have h5 : decide ((x.fn.toNat : Int) = ((5 : UInt8).toNat : Int)) = false := h5
    refine ⟨_, zc h (i := 7) rfl, ?_⟩
    exact ⟨rb (by rw [h4, h5]; rfl), rfl⟩
  have h2 : ¬ x.op = 8 := KI ((u8d x.op 8).symm.trans h2)
  exact ⟨rb (by unfold fnL; rw [Gm h1, Gm h2]), rfl⟩
set_option maxRecDepth 4000
def zq6:InsD:=⟨0,0,0,false,0,false,0,0,0,0⟩
def nd0 (x:InsD):InsD:={ zq6 with op:=x.op }
def nd1 (x:InsD):InsD:={ nd0 x with dst:=if jN x.op 1 then x.dst else 0 }
def nd2 (x:InsD):InsD:={ nd1 x with loc:=if jN x.op 2 then x.loc else 0 }
def nd3 (x:InsD):InsD:={ nd2 x with ar:=jN x.op 4&&x.ar,an:=if jN x.op 4 then x.an else 0 }
def nd4 (x:InsD):InsD:={ nd3 x with br:=jN x.op 8&&x.br,bn:=if jN x.op 8 then x.bn else 0 }
def nd5 (x:InsD):InsD:={ nd4 x with fn:=if jN x.op 16 then x.fn else 0 }
def nd6 (x:InsD):InsD:={ nd5 x with mode:=if jN x.op 32 then x.mode else 0 }
def nd7 (x:InsD):InsD:={ nd6 x with skip:=if jN x.op 64 then x.skip else 0 }
theorem zpE {g locs after:Nat} {x:InsD} {w:Wd} (h:zK w ⟨g,0,none⟩ (spC x locs after)) (hg:g<w.heap.size) (hop:x.op.toNat<=8) (hG:GlobC w) :
  CB 137 #[At0 g] w (.agg (zF.enc (ze3 x)).toArray):=by
 refine qA 67 [At0 g] (.s .p (.c .p (.c .p (.c .p (.c .p (.c .p (.c .p (.c .p (.c .p .p))))))))) Tryz.func137 ?_;obtain⟨r,hr⟩:=nm (w.heap.size);obtain⟨W0,hW0⟩:=nm (w.alloc (.cells (zF.enc zq6).toArray 55));have hb0:Bw w W0:=by rw [hW0];exact (zba _ _)
 have f0:W0.heap[r]?=some (.cells (zF.enc zq6).toArray 55 (0,0)):=by rw [hW0,hr];exact zw w _
 have s0:W0.heap.size=r+1:=by rw [hW0,wz,hr]
 let Good:InsD->Wd->Prop:=fun y X=>Bw w X/\X.heap[r]?=some (.cells (zF.enc zq6).toArray 55 (0,0))/\X.heap[r+1]?=some (.cells (zF.enc y).toArray 55 (0,0))
 have good:∀ y X,Good y X->zK X ⟨g,0,none⟩ (spC x locs after)/\GlobC X/\g<X.heap.size:=fun y X ⟨hb,_,_⟩=>⟨zU hb hg h,hG.below hb,by have:=hb.size;omega⟩;have turn:∀ y z X Y,Good y X->X.grownBy Y (some (r+1))->Y.heap[r+1]?=some (.cells (zF.enc z).toArray 55 (0,0))->Good z Y:=fun y z X Y ⟨hb,h1,h2⟩ hg' h3 =>
  ⟨hb.grown hg' hb.size (fun k e=>by simp only [KY] at e;omega),(hg'.block _ (hlt h1) (fun e=>by simp only [KY] at e;omega)).trans h1,h3⟩
 have start:∀ Y,Bw W0 Y->Y.heap[W0.heap.size]?=some (.cells (Value.agg (zF.enc (nd0 x)).toArray).cells 55 (0,0))->Good (nd0 x) Y:=fun Y hY fY =>
  ⟨(zst hb0 hY),zb hY f0,by rw [<- s0];exact fY⟩
 have h0:zK W0 ⟨g,0,none⟩ (spC x locs after):=zU hb0 hg h;have p2:some (Value.pointer (some ⟨w.heap.size,0,none⟩))=some (At0 r):=by rw [hr]
 have p3:some (Value.pointer (some ⟨W0.heap.size,0,none⟩))=some (At0 (r+1)):=by rw [s0]
 refine⟨Unit,fun _=>⟨[(0,At0 g),(2,At0 r),(3,At0 (r+1))],[]⟩,fun _ X=>Good (nd0 x) X,?_,?_⟩
 ·subst hW0;exact⟨_,zc h0 (i:=0) rfl,zF.enc (nd0 x),rfl,zq (v := .agg (zF.enc (nd0 x)).toArray) k55 rfl rfl rfl fun Y hbY fY sY=>⟨(),⟨.cons rfl (.cons p2 (.cons p3 .nil)),rfl⟩,start Y hbY fY⟩⟩
 clear start h0 f0 hb0 p2 p3 s0;rintro _ Y hY;refine⟨Unit,fun _=>⟨[(0,At0 g),(2,At0 r),(3,At0 (r+1))],[]⟩,fun _ X=>Good (nd1 x) X,?_,?_⟩
 ·obtain⟨hc,hGY,hgY⟩:=good _ Y hY;refine cmo (zfc 1 hc hop hGY) ?_;rintro e _ ⟨rfl,rfl⟩;refine biE (fun hh=>?_) fun hh=>?_
  ·have hh:jN x.op 1=true:=hh;have e:nd1 x={ nd0 x with dst:=x.dst }:=by unfold nd1;rw [Gn hh]
   exact⟨_,zc hc (i:=1) rfl,jg k5 rfl (hY.2.2) (o:=1) (by show 1<10;omega) (v:=u8 x.dst) rfl rfl fun Z fZ gZ sZ=>⟨(),(cvE rfl rfl),turn _ _ Y Z hY gZ (by rw [e];exact fZ)⟩⟩
  ·have hh:jN x.op 1=false:=hh;have e:nd1 x=nd0 x:=by unfold nd1;rw [Gm (by rw [hh];decide)];rfl
   exact⟨(),(cvE rfl rfl),by rw [e];exact hY⟩
 clear hY Y;rintro _ Y hY;refine⟨Unit,fun _=>⟨[(0,At0 g),(2,At0 r),(3,At0 (r+1))],[]⟩,fun _ X=>Good (nd2 x) X,?_,?_⟩
 ·obtain⟨hc,hGY,hgY⟩:=good _ Y hY;refine cmo (zfc 2 hc hop hGY) ?_;rintro e _ ⟨rfl,rfl⟩;refine biE (fun hh=>?_) fun hh=>?_
  ·have hh:jN x.op 2=true:=hh;have e:nd2 x={ nd1 x with loc:=x.loc }:=by unfold nd2;rw [Gn hh]
   exact⟨_,zc hc (i:=2) rfl,jg k5 rfl (hY.2.2) (o:=2) (by show 2<10;omega) (v:=u8 x.loc) rfl rfl fun Z fZ gZ sZ=>⟨(),(cvE rfl rfl),turn _ _ Y Z hY gZ (by rw [e];exact fZ)⟩⟩
  ·have hh:jN x.op 2=false:=hh;have e:nd2 x=nd1 x:=by unfold nd2;rw [Gm (by rw [hh];decide)];rfl
   exact⟨(),(cvE rfl rfl),by rw [e];exact hY⟩
 clear hY Y;rintro _ Y hY;refine⟨Unit,fun _=>⟨[(0,At0 g),(2,At0 r),(3,At0 (r+1))],[]⟩,fun _ X=>Good (nd3 x) X,?_,?_⟩
 ·obtain⟨hc,hGY,hgY⟩:=good _ Y hY;refine cmo (zfc 4 hc hop hGY) ?_;rintro e _ ⟨rfl,rfl⟩;refine biE (fun hh=>?_) fun hh=>?_
  ·have hh:jN x.op 4=true:=hh;have e:nd3 x={ nd2 x with ar:=x.ar,an:=x.an }:=by unfold nd3;rw [hh,Uw,Gn rfl]
   exact⟨[.bool x.ar,u8 x.an],rfl,zR (n:=3) (m:=2) hc,hgY,j6 k53 hY.2.2 (o:=3) (v := .agg #[.bool x.ar,u8 x.an]) rfl (by show 3+2<=10;omega) rfl fun Z fZ gZ sZ=>⟨(),(cvE rfl rfl),turn _ _ Y Z hY gZ (by rw [e];exact fZ)⟩⟩
  ·have hh:jN x.op 4=false:=hh;have e:nd3 x=nd2 x:=by unfold nd3;rw [hh,Uh,Gm (by decide)];rfl
   exact⟨(),(cvE rfl rfl),by rw [e];exact hY⟩
 clear hY Y;rintro _ Y hY;refine⟨Unit,fun _=>⟨[(0,At0 g),(2,At0 r),(3,At0 (r+1))],[]⟩,fun _ X=>Good (nd4 x) X,?_,?_⟩
 ·obtain⟨hc,hGY,hgY⟩:=good _ Y hY;refine cmo (zfc 8 hc hop hGY) ?_;rintro e _ ⟨rfl,rfl⟩;refine biE (fun hh=>?_) fun hh=>?_
  ·have hh:jN x.op 8=true:=hh;have e:nd4 x={ nd3 x with br:=x.br,bn:=x.bn }:=by unfold nd4;rw [hh,Uw,Gn rfl]
   exact⟨[.bool x.br,u8 x.bn],rfl,zR (n:=5) (m:=2) hc,hgY,j6 k53 hY.2.2 (o:=5) (v := .agg #[.bool x.br,u8 x.bn]) rfl (by show 5+2<=10;omega) rfl fun Z fZ gZ sZ=>⟨(),(cvE rfl rfl),turn _ _ Y Z hY gZ (by rw [e];exact fZ)⟩⟩
  ·have hh:jN x.op 8=false:=hh;have e:nd4 x=nd3 x:=by unfold nd4;rw [hh,Uh,Gm (by decide)];rfl
   exact⟨(),(cvE rfl rfl),by rw [e];exact hY⟩
 clear hY Y;rintro _ Y hY;refine⟨Unit,fun _=>⟨[(0,At0 g),(2,At0 r),(3,At0 (r+1))],[]⟩,fun _ X=>Good (nd5 x) X,?_,?_⟩
 ·obtain⟨hc,hGY,hgY⟩:=good _ Y hY;refine cmo (zfc 16 hc hop hGY) ?_;rintro e _ ⟨rfl,rfl⟩;refine biE (fun hh=>?_) fun hh=>?_
  ·have hh:jN x.op 16=true:=hh;have e:nd5 x={ nd4 x with fn:=x.fn }:=by unfold nd5;rw [Gn hh]
   exact⟨_,zc hc (i:=7) rfl,jg k5 rfl (hY.2.2) (o:=7) (by show 7<10;omega) (v:=u8 x.fn) rfl rfl fun Z fZ gZ sZ=>⟨(),(cvE rfl rfl),turn _ _ Y Z hY gZ (by rw [e];exact fZ)⟩⟩
  ·have hh:jN x.op 16=false:=hh;have e:nd5 x=nd4 x:=by unfold nd5;rw [Gm (by rw [hh];decide)];rfl
   exact⟨(),(cvE rfl rfl),by rw [e];exact hY⟩
 clear hY Y;rintro _ Y hY;refine⟨Unit,fun _=>⟨[(0,At0 g),(2,At0 r),(3,At0 (r+1))],[]⟩,fun _ X=>Good (nd6 x) X,?_,?_⟩
 ·obtain⟨hc,hGY,hgY⟩:=good _ Y hY;refine cmo (zfc 32 hc hop hGY) ?_;rintro e _ ⟨rfl,rfl⟩;refine biE (fun hh=>?_) fun hh=>?_
  ·have hh:jN x.op 32=true:=hh;have e:nd6 x={ nd5 x with mode:=x.mode }:=by unfold nd6;rw [Gn hh]
   exact⟨_,zc hc (i:=8) rfl,jg k5 rfl (hY.2.2) (o:=8) (by show 8<10;omega) (v:=u8 x.mode) rfl rfl fun Z fZ gZ sZ=>⟨(),(cvE rfl rfl),turn _ _ Y Z hY gZ (by rw [e];exact fZ)⟩⟩
  ·have hh:jN x.op 32=false:=hh;have e:nd6 x=nd5 x:=by unfold nd6;rw [Gm (by rw [hh];decide)];rfl
   exact⟨(),(cvE rfl rfl),by rw [e];exact hY⟩
 clear hY Y;rintro _ Y hY;refine⟨Unit,fun _=>⟨[(0,At0 g),(2,At0 r),(3,At0 (r+1))],[]⟩,fun _ X=>Good (nd7 x) X,?_,?_⟩
 ·obtain⟨hc,hGY,hgY⟩:=good _ Y hY;refine cmo (zfc 64 hc hop hGY) ?_;rintro e _ ⟨rfl,rfl⟩;refine biE (fun hh=>?_) fun hh=>?_
  ·have hh:jN x.op 64=true:=hh;have e:nd7 x={ nd6 x with skip:=x.skip }:=by unfold nd7;rw [Gn hh]
   exact⟨_,zc hc (i:=9) rfl,jg k5 rfl (hY.2.2) (o:=9) (by show 9<10;omega) (v:=u8 x.skip) rfl rfl fun Z fZ gZ sZ=>⟨(),(cvE rfl rfl),turn _ _ Y Z hY gZ (by rw [e];exact fZ)⟩⟩
  ·have hh:jN x.op 64=false:=hh;have e:nd7 x=nd6 x:=by unfold nd7;rw [Gm (by rw [hh];decide)];rfl
   exact⟨(),(cvE rfl rfl),by rw [e];exact hY⟩
 clear hY Y;rintro _ Y hY;exact⟨_,rfl,za hY.2.2,hlt hY.2.2,zt (v := .agg (zF.enc (nd7 x)).toArray) k55 hY.2.1 rfl rfl rfl ⟨_,rfl,za (zn hY.2.1),rfl,zl hY.1 (by omega) _⟩⟩
end Go.Proofs.YtkpaomeeknegpaaGreatDoor
namespace Go.Vc
open Go.RowKit
def qV (cs:List Value) (o n:Nat):List Value:=(cs.drop o).take n
theorem zf0 (cs:List Value) (o n m:Nat):qV cs o (n+m)=qV cs o n++qV cs (o+n) m:=by
 unfold qV;rw [List.take_add,Ui]
theorem zd5 {cs:List Value} {o n:Nat} (h:o+n<=cs.length):(qV cs o n).length=n:=by
 unfold qV;rw [Qt,Qs];omega
def vOf (g:Bool) (a:List Value):Value:=match g with | true => .agg a.toArray | false=>a.headD undef
structure TyEq (P:Program) (T:TypeId) (g:Bool) (n k:Nat) (G:List Value->Prop):Prop where
 ag:∀ w,(isAgg T).run P w = .ok g w
 info:∃ i,P.info? T=some i
 cl:P.cellsOf T=n
 one:g=false->n=1
 eq:∀ d w a b,a.length=n->b.length=n->G a->G b->∃ r:Bool,(Op.equalIn (d+k) T (vOf g a) (vOf g b)).run P w = .ok r w/\(r=true↔a=b)
section
variable {P:Program}
theorem TyEq.up {T:TypeId} {g:Bool} {n k:Nat} {G:List Value->Prop} (h:TyEq P T g n k G) (m:Nat):TyEq P T g n (m+k) G :=
 ⟨h.ag,h.info,h.cl,h.one,fun d w a b h1 h2 h3 h4=>by have:=h.eq (d+m) w a b h1 h2 h3 h4;rwa [UC] at this⟩
theorem TyEq.part {T:TypeId} {g:Bool} {n k:Nat} {G:List Value->Prop} (h:TyEq P T g n k G) (xs:Array Value) (o:Nat) (hs:o+n<=xs.size) (w:Wd):(Go.part T xs o).run P w = .ok (vOf g (qV xs.toList o n)) w:=by
 obtain⟨i,hi⟩:=h.info;have hsz:=run_sizeOf w hi;rw [h.cl] at hsz;simp only [Go.part,US,h.ag,KZ]
 cases g with
 | true =>
  simp only [Gl,US,hsz,KZ,UT,vOf];congr 2;apply Qd.1;simp [qV,JS,List.extract_eq_take_drop]
 | false =>
  have h1:=h.one rfl;subst h1;have ho:o<xs.size:=by omega
  simp only [Kt,Gj,Jo ho,UT,vOf];congr 1;unfold qV;rw [Jq (by simpa using ho)];simp
inductive Tile (P:Program) (k:Nat):List Field->Nat->Nat->(List Value->Prop)->Prop
 | nil {s:Nat}:Tile P k [] s s (fun _=>True)
 | cons {f : Field} {fs : List Field} {s e n : Nat} {g : Bool} {G G' : List Value → Prop} (hn : f.name ≠ "_") (ho : f.offset = s) (ht : TyEq P f.type g n k G) (hr : Tile P k fs (s + n) e G') : Tile P k (f :: fs) s e (fun cs => G (cs.take n) ∧ G' (cs.drop n))
theorem Tile.le {k:Nat} {fs:List Field} {s e:Nat} {G:List Value->Prop} (h:Tile P k fs s e G):s<=e:=by
 induction h with
 | nil=>exact UV _
 | cons _ _ _ _ ih=>omega
theorem Tile.eq {k:Nat} {fs:List Field} {s e:Nat} {G:List Value->Prop} (h:Tile P k fs s e G):∀ (d:Nat) (xs ys:Array Value) (w:Wd),e<=xs.size->e<=ys.size->G (qV xs.toList s (e-s))->G (qV ys.toList s (e-s)) ->
  ∃ r:Bool,(Op.eqFields (d+k) xs ys fs).run P w = .ok r w/\(r=true↔qV xs.toList s (e-s)=qV ys.toList s (e-s)):=by
 induction h with
 | nil=>intro d xs ys w _ _ _ _;exact⟨true,rfl,by simp [qV]⟩
 | @cons f fs s e n g G G' hn ho ht hr ih =>
  intro d xs ys w hx hy hgx hgy;have hle:=hr.le;have e1:e-s=n+(e-(s+n)):=by omega
  rw [e1,zf0] at hgx hgy;rw [e1,zf0,zf0];have lx:(qV xs.toList s n).length=n:=zd5 (by simp;omega);have ly:(qV ys.toList s n).length=n:=zd5 (by simp;omega);obtain⟨gx1,gx2⟩:=hgx;obtain⟨gy1,gy2⟩:=hgy;rw [Jg (by omega),JF (by omega)] at gx1 gy1;rw [List.drop_append_of_le_length (by omega),JB (by omega),QS] at gx2 gy2;obtain⟨r1,h1,h2⟩:=ht.eq d w _ _ lx ly gx1 gy1;obtain⟨r2,h3,h4⟩:=ih d xs ys w hx hy gx2 gy2;simp only [Op.eqFields,hn,ne_eq,not_false_eq_true,Gl,US,ho,ht.part xs s (by omega) w,ht.part ys s (by omega) w,KZ,h1];have hap:(qV xs.toList s n++qV xs.toList (s+n) (e-(s+n))=qV ys.toList s n++qV ys.toList (s+n) (e-(s+n)))↔(qV xs.toList s n=qV ys.toList s n/\qV xs.toList (s+n) (e-(s+n))=qV ys.toList (s+n) (e-(s+n))) :=
   ⟨fun h=>List.append_inj h (by rw [lx,ly]),fun h=>by rw [h.1,h.2]⟩
  rw [hap,<- h2,<- h4]
  cases r1 with
  | true=>exact⟨r2,by simpa using h3,by simp⟩
  | false=>exact⟨false,by simp,by simp⟩
theorem TyEq.struct {T:TypeId} {k n:Nat} {G:List Value->Prop} (hu:P.underlying T=some (.struct (P.fieldsOf T))) (hp:P.stoodInHeld T=false) (hag:∀ w,(isAgg T).run P w = .ok true w) (hi:∃ i,P.info? T=some i) (hc:P.cellsOf T=n)
  (ht:Tile P k (P.fieldsOf T).toList 0 n G):TyEq P T true n (k+1) G :=
 ⟨hag,hi,hc,fun h=>(by cases h),fun d w a b ha hb ga gb=>by
  have e:∀ l:List Value,l.length=n->qV l.toArray.toList 0 (n-0)=l:=fun l hl=>by
   unfold qV;rw [Uk,UO];exact JF (by show l.length<=n;omega)
  obtain⟨r,h1,h2⟩:=ht.eq d a.toArray b.toArray w (by simp;omega) (by simp;omega) (by rw [e a ha];exact ga) (by rw [e b hb];exact gb);rw [e a ha,e b hb] at h2;refine⟨r,?_,h2⟩;have:=run_equalIn_struct (P:=P) w (d+k) T a.toArray b.toArray hu hp;rw [<- UC];exact this.trans h1⟩
theorem zoD {n m:Nat} (hn:0<n) {a b:List Value} (ha:a.length=m*n) (hb:b.length=m*n) (h:∀ i,i<m->qV a (i*n) n=qV b (i*n) n):a=b:=by
 apply KO;intro j;by_cases hj:j<m*n
 ·have hd:j/n<m:=Kc (by rw [UM];exact hj);have h1:=Gi (fun l=>l[j%n]?) (h _ hd);simp only [qV,Kx,Gn (Ge j hn),Kw] at h1;rw [UM,QX] at h1;exact h1
 ·rw [JJ (by omega),JJ (by omega)]
theorem TyEq.array {T e:TypeId} {g:Bool} {n k m:Nat} {G:List Value->Prop} (hn:0<n) (hu:P.underlying T=some (.array m e)) (hag:∀ w,(isAgg T).run P w = .ok true w) (hi:∃ i,P.info? T=some i) (hc:P.cellsOf T=m*n) (ht:TyEq P e g n k G) :
  TyEq P T true (m*n) (k+1) (fun cs=>∀ i,i<m->G (qV cs (i*n) n)) :=
 ⟨hag,hi,hc,fun h=>(by cases h),fun d w a b ha hb ga gb=>by
  obtain⟨ie,hie⟩:=ht.info;have key:∀ is:List Nat,(∀ i∈is,i<m)->∃ r:Bool,(Op.eqItems (d+k) e n a.toArray b.toArray is).run P w = .ok r w/\(r=true↔∀ i∈is,qV a (i*n) n=qV b (i*n) n):=by
   intro is
   induction is with
   | nil=>intro _;exact⟨true,rfl,by simp⟩
   | cons i is ih =>
    intro him;have hi:=him i Kz;have hle:i*n+n<=m*n:=(by rw [<- UP];exact Nat.mul_le_mul_right _ hi);obtain⟨r2,h3,h4⟩:=ih fun j hj=>him j (JW _ hj);obtain⟨r1,h1,h2⟩:=ht.eq d w (qV a (i*n) n) (qV b (i*n) n) (zd5 (by omega)) (zd5 (by omega)) (ga i hi) (gb i hi);have p1:=ht.part a.toArray (i*n) (by simp;omega) w;have p2:=ht.part b.toArray (i*n) (by simp;omega) w;have ea:a.toArray.toList=a:=rfl;have eb:b.toArray.toList=b:=rfl;rw [ea] at p1;rw [eb] at p2;simp only [Op.eqItems,US,p1,p2,KZ,h1]
    cases r1 with
    | true =>
     refine⟨r2,by simpa using h3,?_⟩;rw [h4];have:=h2.1 rfl;simp [this]
    | false =>
     refine⟨false,by simp,?_⟩;simp only [Kt,false_iff];intro h;have:=h2.2 (h i Kz)
     cases this
  obtain⟨r,h1,h2⟩:=key (List.range m) fun i hi=>Um.1 hi;refine⟨r,?_,?_⟩
  ·have:=run_equalIn_array (P:=P) w (d+k) a.toArray b.toArray hu hie;rw [ht.cl] at this;rw [<- UC];exact this.trans h1
  ·rw [h2];exact⟨fun h=>zoD hn ha hb fun i hi=>h i (Um.2 hi),fun h i _=>by rw [h]⟩⟩
theorem TyEq.int {T:TypeId} {q:IntKind} (hu:P.underlying T=some (.int q)) (hag:∀ w,(isAgg T).run P w = .ok false w) (hi:∃ i,P.info? T=some i) (hc:P.cellsOf T=1):TyEq P T false 1 1 (fun cs=>∃ x,cs=[.int q x]) :=
 ⟨hag,hi,hc,fun _=>rfl,fun d w a b _ _ ⟨x,hx⟩ ⟨y,hy⟩=>by
  subst hx hy;refine⟨decide (x=y),?_,by simp⟩;simp only [vOf,List.headD_cons,Op.equalIn,US,Ur hu,KZ,Gl,UT];congr 1⟩
theorem TyEq.bool {T:TypeId} (hu:P.underlying T=some .bool) (hag:∀ w,(isAgg T).run P w = .ok false w) (hi:∃ i,P.info? T=some i) (hc:P.cellsOf T=1):TyEq P T false 1 1 (fun cs=>∃ x,cs=[.bool x]) :=
 ⟨hag,hi,hc,fun _=>rfl,fun d w a b _ _ ⟨x,hx⟩ ⟨y,hy⟩=>by
  subst hx hy;refine⟨x == y,?_,by simp⟩;simp only [vOf,List.headD_cons,Op.equalIn,US,Ur hu,KZ,UT]⟩
end
end Go.Vc
namespace Go.Proofs.YtkpaomeeknegpaaGreatDoor
open Go.Vc Go.RowKit Go.Sei
def zvh (q:IntKind) (cs:List Value):Prop:=∃ x,cs=[.int q x]
def zuN (cs:List Value):Prop:=∃ x,cs=[.bool x]
theorem tU8:TyEq PG 5 false 1 1 (zvh .u8) := .int Tryz.underlying5 (fun w=>Tryz.isAgg5 w) (jV (by kernel_rfl) (by kernel_rfl)).1 (by kernel_rfl)
theorem zus:TyEq PG 4 false 1 1 zuN := .bool Tryz.underlying4 (fun w=>Tryz.isAgg4 w) (jV (by kernel_rfl) (by kernel_rfl)).1 (by kernel_rfl)
theorem uf {T:TypeId} {F:Array Field} (h:Tryz.prog.underlying T=some (.struct F)):Tryz.prog.underlying T=some (.struct (Tryz.prog.fieldsOf T))/\Tryz.prog.fieldsOf T=F:=by
 have:Tryz.prog.fieldsOf T=F:=by unfold Program.fieldsOf;rw [h]
 exact⟨by rw [this];exact h,this⟩
open Classical in
noncomputable def cdec (p:Prop):Bool:=decide p
theorem zsn {p:Prop} [h:Decidable p]:cdec p=decide p:=by unfold cdec;congr
theorem zfo {p q:Prop} [Decidable q] (h:p↔q):cdec p=decide q:=by
 have:p=q:=propext h;subst this;exact zsn
section
variable {T:TypeId} {n k:Nat} {G:List Value->Prop} (h:TyEq PG T true n k G) (d:Nat) (hd:d+k=10000) (hg:Tryz.prog.eqGuardType Tryz.prog.depth T=false) {a b:List Value} (ha:a.length=n) (hb:b.length=n) (ga:G a) (gb:G b)
include h hd hg ha hb ga gb
omit hg in
theorem equal_ty (w:Wd):(Op.equal T (.agg a.toArray) (.agg b.toArray)).run PG w = .ok (cdec (a=b)) w:=by
 obtain⟨r,h1,h2⟩:=h.eq d w a b ha hb ga gb;have e:r=cdec (a=b):=by
  unfold cdec
  cases r with
  | true=>simp [h2.1 rfl]
  | false =>
   have:¬ a=b:=fun e=>by have:=h2.2 e;cases this
   simp [this]
 rw [hd] at h1;rw [<- e];exact h1
theorem ztr (x y:Operand) (w:Wd):(do eqGuard .neq T x y (.agg a.toArray) (.agg b.toArray);binOp .neq T (.agg a.toArray) (.agg b.toArray)).run PG w = .ok (.bool (!cdec (a=b))) w:=by
 have he:=equal_ty h d hd ha hb ga gb w;have h1:(eqGuard .neq T x y (.agg a.toArray) (.agg b.toArray)).run PG w = .ok () w:=by
  simp only [eqGuard,Uu,Kt,Gj,US,run_program,KZ,hg,Bool.not_false,Gl,UT]
 rw [US,h1];simp only [KZ,binOp,US,he,UT]
theorem zmj (x y:Operand) (w:Wd):(do eqGuard .eql T x y (.agg a.toArray) (.agg b.toArray);binOp .eql T (.agg a.toArray) (.agg b.toArray)).run PG w = .ok (.bool (cdec (a=b))) w:=by
 have he:=equal_ty h d hd ha hb ga gb w;have h1:(eqGuard .eql T x y (.agg a.toArray) (.agg b.toArray)).run PG w = .ok () w:=by
  simp only [eqGuard,Uu,Kt,Gj,US,run_program,KZ,hg,Bool.not_false,Gl,UT]
 rw [US,h1];simp only [KZ,binOp,US,he,UT]
end
theorem zuU:∃ G,TyEq PG 53 true 2 2 G/\∀ r n,G [.bool r,u8 n]:=by
 refine⟨_,.struct (uf Tryz.underlying53).1 (by kernel_rfl) (fun w=>Tryz.isAgg53 w) (jV (by kernel_rfl) (by kernel_rfl)).1 (by kernel_rfl)
  (by rw [(uf Tryz.underlying53).2];exact .cons (by decide) rfl zus (.cons (by decide) rfl tU8 .nil)),fun r n=>?_⟩
 exact⟨⟨_,rfl⟩,⟨_,rfl⟩,trivial⟩
theorem zuS:∃ G,TyEq PG 55 true 10 3 G/\∀ x,G (zF.enc x):=by
 obtain⟨G,h1,h2⟩:=zuU;refine⟨_,.struct (uf Tryz.underlying55).1 (by kernel_rfl) (fun w=>Tryz.isAgg55 w) (jV (by kernel_rfl) (by kernel_rfl)).1 (by kernel_rfl)
  (by rw [(uf Tryz.underlying55).2];exact .cons (by decide) rfl (tU8.up 1) (.cons (by decide) rfl (tU8.up 1) (.cons (by decide) rfl (tU8.up 1) (.cons (by decide) rfl h1 (.cons (by decide) rfl h1 (.cons (by decide) rfl (tU8.up 1) (.cons (by decide) rfl (tU8.up 1) (.cons (by decide) rfl (tU8.up 1) .nil)))))))),fun x=>?_⟩
 exact⟨⟨_,rfl⟩,⟨_,rfl⟩,⟨_,rfl⟩,h2 _ _,h2 _ _,⟨_,rfl⟩,⟨_,rfl⟩,⟨_,rfl⟩,trivial⟩
theorem zb1 {a b:UInt8} (h:u8 a=u8 b):a=b:=by
 unfold u8 at h;simp only [Value.int.injEq,true_and] at h;exact qu.1 h
theorem zrH {a b:InsD}:zF.enc a=zF.enc b↔a=b:=by
 constructor
 ·intro h;obtain⟨a0,a1,a2,a3,a4,a5,a6,a7,a8,a9⟩:=a;obtain⟨b0,b1,b2,b3,b4,b5,b6,b7,b8,b9⟩:=b;simp only [zF,QJ,Gh,Value.bool.injEq] at h;obtain⟨h0,h1,h2,rfl,h4,rfl,h6,h7,h8,h9⟩:=h;rw [zb1 h0,zb1 h1,zb1 h2,zb1 h4,zb1 h6,zb1 h7,zb1 h8,zb1 h9]
 ·exact fun h=>by rw [h]
theorem zr4 (x y:Operand) (a b:InsD) (w:Wd):(do eqGuard .eql 55 x y (.agg (zF.enc a).toArray) (.agg (zF.enc b).toArray);binOp .eql 55 (.agg (zF.enc a).toArray) (.agg (zF.enc b).toArray)).run PG w = .ok (.bool (decide (a=b))) w:=by
 obtain⟨G,h,hG⟩:=zuS;rw [zmj h 9997 rfl (by kernel_rfl) rfl rfl (hG a) (hG b) x y w,zfo zrH]
structure SpV (X:Wd) (g bx:Nat) (x:InsD) (locs after:Nat):Prop where
 c:X.heap[g]?=some (.cells (spC x locs after).toArray 172 (0,0))
 b:X.heap[bx]?=some (.cells #[At0 g] 220 (0,0))
 G:GlobC X
theorem SpV.below {X Y:Wd} {g bx locs after:Nat} {x:InsD} (h:SpV X g bx x locs after) (hb:Bw X Y):SpV Y g bx x locs after:=⟨zb hb h.c,zb hb h.b,h.G.below hb⟩
theorem SpV.cells {X:Wd} {g bx locs after:Nat} {x:InsD} (h:SpV X g bx x locs after):zK X ⟨g,0,none⟩ (spC x locs after):=za h.c
section
variable {g bx locs after:Nat} {x:InsD} {w:Wd}
theorem zsi (h:SpV w g bx x locs after):CB 135 #[At0 bx] w (.bool (decide (1<=x.op.toNat)&&decide (x.op.toNat<=8))):=by
 refine zI 16 [At0 bx] Tryz.func135 ?_;refine⟨_,zc (za h.b) (i:=0) rfl,_,zc h.cells (i:=0) rfl,biE (fun h1=>?_) fun h1=>?_⟩
 ·have h1:(1:Int)<=x.op.toNat:=dT h1;refine⟨_,zc (za h.b) (i:=0) rfl,_,zc h.cells (i:=0) rfl,rb ?_,Ga _ _⟩;rw [Uq (p:=1<=x.op.toNat) (by omega),Uw,QE];show (x.op.toNat:Int)<=8↔_;omega
 ·have h1:¬ (1:Int)<=x.op.toNat:=dF h1;refine⟨rb ?_,Ga _ _⟩;rw [Uf (p:=1<=x.op.toNat) (by omega)];rfl
theorem zsh (h:SpV w g bx x locs after) (hop:x.op.toNat<=8):CB 136 #[At0 bx] w (.bool (decide (x=ze3 x))):=by
 refine zI 9 [At0 bx] Tryz.func136 ?_;have hd:SpV w.drew g bx x locs after:=h.below (Ga _ w).drew;refine DrawE.ord [] [0,1,2,3,4,5,6,7] (by kernel_rfl) ⟨_,zc (za hd.b) (i:=0) rfl,zF.enc x,rfl,zR (n:=0) (m:=10) hd.cells,hlt hd.c,_,zc (za hd.b) (i:=0) rfl,cmo (zpE hd.cells (hlt hd.c) hop hd.G) ?_⟩;rintro e V ⟨rfl,hb⟩;exact⟨hb,_,fun w=>zr4 _ _ x (ze3 x) w,rfl,(Ga _ w).drew.trans hb⟩
theorem zsg (h:SpV w g bx x locs after):CB 138 #[At0 bx] w (.bool (decide (x.dst.toNat<8))):=by
 refine zI 8 [At0 bx] Tryz.func138 ?_;refine⟨_,zc (za h.b) (i:=0) rfl,_,zc h.cells (i:=1) rfl,rb ?_,Ga _ _⟩;show decide ((x.dst.toNat:Int)<8)=_;rw [QE];omega
theorem zsf (h:SpV w g bx x locs after) (hop:x.op.toNat<=8):CB 139 #[At0 bx] w (.bool (!jN x.op 2||decide (x.loc.toNat<locs))):=by
 refine zI 18 [At0 bx] Tryz.func139 ?_;have hd:SpV w.drew g bx x locs after:=h.below (Ga _ w).drew;refine DrawE.ord [] [0,1,2,3,4,5,6,7,8,9,10,11,12,13,14,15,16] (by kernel_rfl) ⟨_,zc (za hd.b) (i:=0) rfl,cmo (zfc 2 hd.cells hop hd.G) ?_⟩;rintro e _ ⟨rfl,rfl⟩;refine⟨Ga _ _,biE (fun h1=>?_) fun h1=>?_⟩
 ·have h1:(!jN x.op 2)=true:=h1;exact⟨rb (by rw [h1];rfl),(Ga _ w).drew⟩
 ·have h1:(!jN x.op 2)=false:=h1;refine⟨_,zc (za hd.b) (i:=0) rfl,_,zc hd.cells (i:=2) rfl,_,q8 _,_,zc (za hd.b) (i:=0) rfl,_,zc hd.cells (i:=10) rfl,rb ?_,(Ga _ w).drew⟩;rw [h1,Ut,QE];omega
theorem zse (h:SpV w g bx x locs after):CB 141 #[At0 bx] w (.bool (zj0 x.ar x.an&&zj0 x.br x.bn)):=by
 refine zI 16 [At0 bx] Tryz.func141 ?_;refine⟨_,zc (za h.b) (i:=0) rfl,[.bool x.ar,u8 x.an],rfl,zR (n:=3) (m:=2) h.cells,hlt h.c,cmo (zh6 x.ar x.an w) ?_⟩;rintro e V ⟨rfl,hb⟩;have hV:=h.below hb;refine biE (fun h1=>?_) fun h1=>?_
 ·have h1:zj0 x.ar x.an=true:=h1;refine⟨_,zc (za hV.b) (i:=0) rfl,[.bool x.br,u8 x.bn],rfl,zR (n:=5) (m:=2) hV.cells,hlt hV.c,cmo (zh6 x.br x.bn V) ?_⟩;rintro e U ⟨rfl,hb2⟩;exact⟨rb (by rw [h1,Uw]),(zst hb hb2)⟩
 ·have h1:zj0 x.ar x.an=false:=h1;exact⟨rb (by rw [h1,Uh]),hb⟩
theorem zsd (h:SpV w g bx x locs after) (hop:x.op.toNat<=8):CB 145 #[At0 bx] w (.bool (!jN x.op 64||(decide (1<=x.skip.toNat)&&decide (x.skip.toNat<=after)))):=by
 refine zI 26 [At0 bx] Tryz.func145 ?_;have hd:SpV w.drew g bx x locs after:=h.below (Ga _ w).drew;refine DrawE.ord [] [0,1,2,3,4,5,6,7,8,9,10,11,12,13,14,15,16,17,18,19,20,21,22,23,24] (by kernel_rfl) ⟨_,zc (za hd.b) (i:=0) rfl,cmo (zfc 64 hd.cells hop hd.G) ?_⟩;rintro e _ ⟨rfl,rfl⟩;refine⟨Ga _ _,biE (fun h1=>?_) fun h1=>?_⟩
 ·have h1:(!jN x.op 64)=true:=h1;exact⟨rb (by rw [h1];rfl),(Ga _ w).drew⟩
 ·have h1:(!jN x.op 64)=false:=h1;rw [h1,Ut];refine⟨_,zc (za hd.b) (i:=0) rfl,_,zc hd.cells (i:=9) rfl,biE (fun h2=>?_) fun h2=>?_⟩
  ·have h2:(1:Int)<=x.skip.toNat:=dT h2;refine⟨_,zc (za hd.b) (i:=0) rfl,_,zc hd.cells (i:=9) rfl,_,q8 _,_,zc (za hd.b) (i:=0) rfl,_,zc hd.cells (i:=11) rfl,rb ?_,(Ga _ w).drew⟩;rw [Uq (p:=1<=x.skip.toNat) (by omega),Uw,QE];omega
  ·have h2:¬ (1:Int)<=x.skip.toNat:=dF h2;refine⟨rb ?_,(Ga _ w).drew⟩;rw [Uf (p:=1<=x.skip.toNat) (by omega)];rfl
end
def zjR (g bx:Nat):List Value:=[.func (.func 135) #[] #[At0 bx],.func (.func 136) #[] #[At0 bx],.func (.func 138) #[] #[At0 bx],
 .func (.func 139) #[] #[At0 bx],.func (.func 141) #[] #[At0 bx],.func (.func 143) #[At0 g] #[],.func (.func 144) #[At0 g] #[],
 .func (.func 145) #[] #[At0 bx]]
theorem zsc {g:Nat} {w:Wd}:Calls PG 99 #[At0 g] w fun e w'=>e = .returned (.slice (some ⟨w.heap.size+1,0,none⟩) 8 8) /\
  w'.heap[w.heap.size]?=some (.cells #[At0 g] 220 (0,0))/\w'.heap[w.heap.size+1]?=some (.cells (zjR g w.heap.size).toArray 33 (0,0))/\w'.heap.size=w.heap.size+2/\Bw w w':=by
 refine zI 14 [At0 g] Tryz.func99 ?_;obtain⟨W,hW⟩:=nm (w.alloc (.cells #[At0 g] 220));have hb:W.heap[w.heap.size]?=some (.cells #[At0 g] 220 (0,0)):=by rw [hW];exact zw w _
 have hs:W.heap.size=w.heap.size+1:=by rw [hW,wz]
 have hbb:Bw w W:=by rw [hW];exact (zba w _)
 refine⟨_,zc (za (zw w _)) (i:=0) rfl,_,zc (za (zw w _)) (i:=0) rfl,⟨by decide,by decide,rfl⟩,zjR g w.heap.size,rfl,?_⟩;have hs1:=wz w (.cells #[At0 g] 220);refine⟨?_,?_,?_,?_,?_⟩
 ·show Ending.returned (.slice (some ⟨(w.alloc (.cells #[At0 g] 220)).heap.size,0,none⟩) 8 8)=_;rw [hs1]
 ·exact qM _ (zw w _)
 ·rw [<- hs1];exact zw _ _
 ·rw [wz,wz]
 ·exact ((zba w _)).alloc (by simp) _
structure ThI (X:Wd) (L:Nat) (x:InsD) (locs after:Nat):Prop where
 c:X.heap[L]?=some (.cells (spC x locs after).toArray 172 (0,0))
 b:X.heap[L+1]?=some (.cells #[At0 L] 220 (0,0))
 s:X.heap[L+2]?=some (.cells (zjR L (L+1)).toArray 33 (0,0))
theorem ThI.below {X Y:Wd} {L:Nat} {x:InsD} {locs after:Nat} (h:ThI X L x locs after) (hb:Bw X Y):ThI Y L x locs after:=⟨zb hb h.c,zb hb h.b,zb hb h.s⟩
def zrI:InsD:=⟨0,0,0,false,0,false,0,0,0,0⟩
theorem zlA {l:List Bool}:∀ {n:Nat},(∀ j,j<n->l[j]?=some true)->n=l.length->l.all id=true:=by
 intro n h e;rw [Qi];intro b hb;obtain⟨j,hj,rfl⟩:=Ki hb;have:=h j (by omega);rw [gE hj] at this;exact Ud this
theorem zqO {l:List Bool} {j:Nat} (h:l[j]?=some false):l.all id=false:=by
 rw [KL];obtain⟨hj,e⟩:=Js.1 h;exact⟨l[j],gM _,by rw [e];decide⟩
theorem zdC {l:List InsD} {k locs:Nat} (hkl:k<l.length) {i:Nat} (h:(qX l[k] locs (l.length-1-k))[i]?=some false) {w X:Wd} (hb:Bw w X) :
  Ending.returned (.bool false) = .returned (.bool (qs l locs))/\Bw w X:=by
 refine⟨rb ?_,hb⟩;symm;unfold qs;rw [Bool.and_eq_false_iff];refine .inr ?_;rw [KL];refine⟨k,Um.2 hkl,?_⟩;rw [gE hkl];show ¬ zgq l[k] locs (l.length-1-k)=true;unfold zgq;rw [zqO h];simp
theorem zlB {p:OA} {cap locs:Nat} {l:List InsD} {w:Wd} (hl:SlR zF w p l) (hG:GlobC w) (hn:l.length<=140737488351232) :
  CB 67 #[.slice p l.length cap,i64 locs] w (.bool (qs l locs)):=by
 refine zI 43 [.slice p l.length cap,i64 locs] Tryz.func67 ?_;obtain⟨L,hL⟩:=nm (w.heap.size);refine biE (fun h=>?_) fun h=>?_
 ·have h:(12:Int)<l.length:=dT h;exact⟨rb (by unfold qs;rw [Uf (by omega)];rfl),Ga _ _⟩
 have h12:¬ (12:Int)<l.length:=dF h;refine⟨spC zrI locs 0,rfl,zq (X:=w) (v := .agg (spC zrI locs 0).toArray) zu4 rfl rfl rfl fun V hbV fV sV=>cmo zsc ?_⟩;rintro e W0 ⟨rfl,hbx,hsl,hsz,hb0⟩;rw [sV,<- hL] at hsz hbx hsl;have hI0:ThI W0 L zrI locs 0:=⟨hL▸zb hb0 fV,hbx,hsl⟩;have hbw:Bw w W0:=zst hbV hb0;have p1:some (Value.pointer (some ⟨w.heap.size,0,none⟩))=some (At0 L):=by rw [hL]
 have p2:some (Value.slice (some ⟨V.heap.size+1,0,none⟩) 8 8)=some (Value.slice (some ⟨L+2,0,none⟩) 8 8):=by rw [sV,hL]
 clear hbx hsl fV sV hb0 hbV;refine⟨Nat,fun k=>⟨[(0,.slice p l.length cap),(1,i64 locs),(5,At0 L),(6,.slice (some ⟨L+2,0,none⟩) 8 8),(17,.slice p l.length cap),(18,i64 l.length),(19,i64 (k:Nat))],[]⟩,
  fun k X=>k<=l.length/\(∀ i,i<k->∀ x,l[i]?=some x->zgq x locs (l.length-1-i)=true)/\(∃ x aft,ThI X L x locs aft)/\Bw w X,fun k=>l.length-k,0,
  ⟨.cons rfl (.cons rfl (.cons p1 (.cons p2 (.cons rfl (.cons rfl (.cons rfl .nil)))))),rfl⟩,⟨UY _,fun i hi=>by omega,⟨zrI,0,hI0⟩,hbw⟩,?_⟩
 rintro k X ⟨hk,hdone,⟨x0,a0,hI⟩,hbX⟩;dsimp only at hk hdone ⊢;refine biE (fun hc=>?_) fun hc=>?_
 ·have hc:(k:Int)<(l.length:Int):=dT hc;have hkl:k<l.length:=by omega
  obtain⟨b,o,rfl,hbl,hat⟩:=hl.at hkl;refine⟨k,rfl,hkl,?_⟩;have hx:=hat k hkl;refine⟨zF.enc l[k],rfl,zU hbX hbl hx,nL hbl hbX.size,zq (X:=X) (v := .agg (zF.enc l[k]).toArray) k55 rfl rfl rfl fun Y hbY fY sY=>⟨zF.enc l[k],rfl,za fY,hlt fY,((l.length-1:Nat):Int),(ze (by omega)).trans (by omega),((l.length-1-k:Nat):Int),(ze (by omega)).trans (by omega),?_⟩⟩;have hY:=hI.below hbY;refine j6 k55 hY.c (o:=0) (v := .agg (zF.enc l[k]).toArray) rfl (by show 0+10<=12;omega) rfl fun Z fZ gZ sZ=>j6 k3 fZ (o:=11) (v:=i64 (l.length-1-k:Nat)) rfl (by show 11+1<=12;omega) rfl fun U fU gU sU=>?_;have hIU:ThI U L l[k] locs (l.length-1-k):=⟨fU,(gU.block _ (by have:=hlt hY.b;omega) (by simp)).trans ((gZ.block _ (hlt hY.b) (by simp)).trans hY.b),(gU.block _ (by have:=hlt hY.s;omega) (by simp)).trans ((gZ.block _ (hlt hY.s) (by simp)).trans hY.s)⟩;have hbU:Bw w U:=by
   have h1:Bw w Y:=zst hbX hbY;have h2:∀ (A B:Wd),Bw w A->A.grownBy B (some L)->Bw w B:=fun A B ha hg=>ha.trans ⟨hg.os,hg.tape,hg.output,hg.size,fun j hj=>hg.block j (nL hj ha.size) (by simp;omega)⟩;exact h2 _ _ (h2 _ _ h1 gZ) gU
  refine⟨Nat,fun j=>⟨[(0,.slice (some ⟨b,o,none⟩) l.length cap),(1,i64 locs),(5,At0 L),(6,.slice (some ⟨L+2,0,none⟩) 8 8),(17,.slice (some ⟨b,o,none⟩) l.length cap),(18,i64 l.length),(19,i64 (k:Nat)),(32,.slice (some ⟨L+2,0,none⟩) 8 8),(33,i64 8),(34,i64 (j:Nat))],[]⟩,
   fun j X=>j<=8/\(∀ i,i<j->(qX l[k] locs (l.length-1-k))[i]?=some true)/\ThI X L l[k] locs (l.length-1-k)/\Bw w X,fun j=>8-j,0,
   (cvE rfl rfl),⟨UY _,fun i hi=>by omega,hIU,hbU⟩,?_⟩
  clear hIU hbU;rintro j X2 ⟨hj,hpre,hI2,hb2⟩;dsimp only at hj hpre ⊢;have hG2:GlobC X2:=hG.below hb2;have hS:SpV X2 L (L+1) l[k] locs (l.length-1-k):=⟨hI2.c,hI2.b,hG2⟩;refine biE (fun hc2=>?_) fun hc2=>?_
  ·have hc2:(j:Int)<8:=dT hc2;refine⟨j,rfl,(by omega),?_⟩;have ho:0<j->l[k].op.toNat<=8:=fun h0=>by
    have:=Ud (hpre 0 h0);rw [bAT] at this;exact dT this.2
   have hat2:∀ {v:Value},(zjR L (L+1))[j]?=some v->X2.cell? ⟨L+2,0+j*1,none⟩=some v:=fun hv=>by
    have:=zc (za hI2.s) (i:=j) (by simpa using hv);rw [UW];exact this
   have hcs:j=0\/j=1\/j=2\/j=3\/j=4\/j=5\/j=6\/j=7:=by omega
   rcases hcs with rfl | rfl | rfl | rfl | rfl | rfl | rfl | rfl
   ·refine⟨_,hat2 rfl,cmo (zsi hS) ?_⟩;rintro e W ⟨rfl,hbW⟩;have hI3:=hI2.below hbW;refine biE (fun hb=>?_) fun hb=>?_
    ·have hb:(!((qX l[k] locs (l.length-1-k))[0]'(by show 0<8;decide)))=true:=hb;have hb:(qX l[k] locs (l.length-1-k))[0]?=some false:=(by rw [gE (by show 0<8;decide)];exact Gi some (by rw [<- UF ((qX l[k] locs (l.length-1-k))[0]'(by show 0<8;decide)),hb];rfl));exact zdC hkl hb ((zst hb2 hbW))
    ·have hb:(!((qX l[k] locs (l.length-1-k))[0]'(by show 0<8;decide)))=false:=hb;have hb:(qX l[k] locs (l.length-1-k))[0]?=some true:=(by rw [gE (by show 0<8;decide)];exact Gi some (by rw [<- UF ((qX l[k] locs (l.length-1-k))[0]'(by show 0<8;decide)),hb];rfl));refine⟨_,(ze (by omega)).trans rfl,1,(cvE rfl rfl),⟨by omega,fun i hi=>?_,hI3,(zst hb2 hbW)⟩,by decide⟩;by_cases hik:i=0
     ·rw [hik];exact hb
     ·exact hpre i (by omega)
   ·refine⟨_,hat2 rfl,cmo (zsh hS (ho (by omega))) ?_⟩;rintro e W ⟨rfl,hbW⟩;have hI3:=hI2.below hbW;refine biE (fun hb=>?_) fun hb=>?_
    ·have hb:(!((qX l[k] locs (l.length-1-k))[1]'(by show 1<8;decide)))=true:=hb;have hb:(qX l[k] locs (l.length-1-k))[1]?=some false:=(by rw [gE (by show 1<8;decide)];exact Gi some (by rw [<- UF ((qX l[k] locs (l.length-1-k))[1]'(by show 1<8;decide)),hb];rfl));exact zdC hkl hb ((zst hb2 hbW))
    ·have hb:(!((qX l[k] locs (l.length-1-k))[1]'(by show 1<8;decide)))=false:=hb;have hb:(qX l[k] locs (l.length-1-k))[1]?=some true:=(by rw [gE (by show 1<8;decide)];exact Gi some (by rw [<- UF ((qX l[k] locs (l.length-1-k))[1]'(by show 1<8;decide)),hb];rfl));refine⟨_,(ze (by omega)).trans rfl,2,(cvE rfl rfl),⟨by omega,fun i hi=>?_,hI3,(zst hb2 hbW)⟩,by decide⟩;by_cases hik:i=1
     ·rw [hik];exact hb
     ·exact hpre i (by omega)
   ·refine⟨_,hat2 rfl,cmo (zsg hS) ?_⟩;rintro e W ⟨rfl,hbW⟩;have hI3:=hI2.below hbW;refine biE (fun hb=>?_) fun hb=>?_
    ·have hb:(!((qX l[k] locs (l.length-1-k))[2]'(by show 2<8;decide)))=true:=hb;have hb:(qX l[k] locs (l.length-1-k))[2]?=some false:=(by rw [gE (by show 2<8;decide)];exact Gi some (by rw [<- UF ((qX l[k] locs (l.length-1-k))[2]'(by show 2<8;decide)),hb];rfl));exact zdC hkl hb ((zst hb2 hbW))
    ·have hb:(!((qX l[k] locs (l.length-1-k))[2]'(by show 2<8;decide)))=false:=hb;have hb:(qX l[k] locs (l.length-1-k))[2]?=some true:=(by rw [gE (by show 2<8;decide)];exact Gi some (by rw [<- UF ((qX l[k] locs (l.length-1-k))[2]'(by show 2<8;decide)),hb];rfl));refine⟨_,(ze (by omega)).trans rfl,3,(cvE rfl rfl),⟨by omega,fun i hi=>?_,hI3,(zst hb2 hbW)⟩,by decide⟩;by_cases hik:i=2
     ·rw [hik];exact hb
     ·exact hpre i (by omega)
   ·refine⟨_,hat2 rfl,cmo (zsf hS (ho (by omega))) ?_⟩;rintro e W ⟨rfl,hbW⟩;have hI3:=hI2.below hbW;refine biE (fun hb=>?_) fun hb=>?_
    ·have hb:(!((qX l[k] locs (l.length-1-k))[3]'(by show 3<8;decide)))=true:=hb;have hb:(qX l[k] locs (l.length-1-k))[3]?=some false:=(by rw [gE (by show 3<8;decide)];exact Gi some (by rw [<- UF ((qX l[k] locs (l.length-1-k))[3]'(by show 3<8;decide)),hb];rfl));exact zdC hkl hb ((zst hb2 hbW))
    ·have hb:(!((qX l[k] locs (l.length-1-k))[3]'(by show 3<8;decide)))=false:=hb;have hb:(qX l[k] locs (l.length-1-k))[3]?=some true:=(by rw [gE (by show 3<8;decide)];exact Gi some (by rw [<- UF ((qX l[k] locs (l.length-1-k))[3]'(by show 3<8;decide)),hb];rfl));refine⟨_,(ze (by omega)).trans rfl,4,(cvE rfl rfl),⟨by omega,fun i hi=>?_,hI3,(zst hb2 hbW)⟩,by decide⟩;by_cases hik:i=3
     ·rw [hik];exact hb
     ·exact hpre i (by omega)
   ·refine⟨_,hat2 rfl,cmo (zse hS) ?_⟩;rintro e W ⟨rfl,hbW⟩;have hI3:=hI2.below hbW;refine biE (fun hb=>?_) fun hb=>?_
    ·have hb:(!((qX l[k] locs (l.length-1-k))[4]'(by show 4<8;decide)))=true:=hb;have hb:(qX l[k] locs (l.length-1-k))[4]?=some false:=(by rw [gE (by show 4<8;decide)];exact Gi some (by rw [<- UF ((qX l[k] locs (l.length-1-k))[4]'(by show 4<8;decide)),hb];rfl));exact zdC hkl hb ((zst hb2 hbW))
    ·have hb:(!((qX l[k] locs (l.length-1-k))[4]'(by show 4<8;decide)))=false:=hb;have hb:(qX l[k] locs (l.length-1-k))[4]?=some true:=(by rw [gE (by show 4<8;decide)];exact Gi some (by rw [<- UF ((qX l[k] locs (l.length-1-k))[4]'(by show 4<8;decide)),hb];rfl));refine⟨_,(ze (by omega)).trans rfl,5,(cvE rfl rfl),⟨by omega,fun i hi=>?_,hI3,(zst hb2 hbW)⟩,by decide⟩;by_cases hik:i=4
     ·rw [hik];exact hb
     ·exact hpre i (by omega)
   ·refine⟨_,hat2 rfl,cmo (zkU hS.cells) ?_⟩;rintro e _ ⟨rfl,rfl⟩;have hbW:Bw X2 X2:=Ga _ _;have hI3:=hI2;refine biE (fun hb=>?_) fun hb=>?_
    ·have hb:(!((qX l[k] locs (l.length-1-k))[5]'(by show 5<8;decide)))=true:=hb;have hb:(qX l[k] locs (l.length-1-k))[5]?=some false:=(by rw [gE (by show 5<8;decide)];exact Gi some (by rw [<- UF ((qX l[k] locs (l.length-1-k))[5]'(by show 5<8;decide)),hb];rfl));exact zdC hkl hb ((zst hb2 hbW))
    ·have hb:(!((qX l[k] locs (l.length-1-k))[5]'(by show 5<8;decide)))=false:=hb;have hb:(qX l[k] locs (l.length-1-k))[5]?=some true:=(by rw [gE (by show 5<8;decide)];exact Gi some (by rw [<- UF ((qX l[k] locs (l.length-1-k))[5]'(by show 5<8;decide)),hb];rfl));refine⟨_,(ze (by omega)).trans rfl,6,(cvE rfl rfl),⟨by omega,fun i hi=>?_,hI3,(zst hb2 hbW)⟩,by decide⟩;by_cases hik:i=5
     ·rw [hik];exact hb
     ·exact hpre i (by omega)
   ·refine⟨_,hat2 rfl,cmo (zou hS.cells) ?_⟩;rintro e _ ⟨rfl,rfl⟩;have hbW:Bw X2 X2:=Ga _ _;have hI3:=hI2;refine biE (fun hb=>?_) fun hb=>?_
    ·have hb:(!((qX l[k] locs (l.length-1-k))[6]'(by show 6<8;decide)))=true:=hb;have hb:(qX l[k] locs (l.length-1-k))[6]?=some false:=(by rw [gE (by show 6<8;decide)];exact Gi some (by rw [<- UF ((qX l[k] locs (l.length-1-k))[6]'(by show 6<8;decide)),hb];rfl));exact zdC hkl hb ((zst hb2 hbW))
    ·have hb:(!((qX l[k] locs (l.length-1-k))[6]'(by show 6<8;decide)))=false:=hb;have hb:(qX l[k] locs (l.length-1-k))[6]?=some true:=(by rw [gE (by show 6<8;decide)];exact Gi some (by rw [<- UF ((qX l[k] locs (l.length-1-k))[6]'(by show 6<8;decide)),hb];rfl));refine⟨_,(ze (by omega)).trans rfl,7,(cvE rfl rfl),⟨by omega,fun i hi=>?_,hI3,(zst hb2 hbW)⟩,by decide⟩;by_cases hik:i=6
     ·rw [hik];exact hb
     ·exact hpre i (by omega)
   ·refine⟨_,hat2 rfl,cmo (zsd hS (ho (by omega))) ?_⟩;rintro e W ⟨rfl,hbW⟩;have hI3:=hI2.below hbW;refine biE (fun hb=>?_) fun hb=>?_
    ·have hb:(!((qX l[k] locs (l.length-1-k))[7]'(by show 7<8;decide)))=true:=hb;have hb:(qX l[k] locs (l.length-1-k))[7]?=some false:=(by rw [gE (by show 7<8;decide)];exact Gi some (by rw [<- UF ((qX l[k] locs (l.length-1-k))[7]'(by show 7<8;decide)),hb];rfl));exact zdC hkl hb ((zst hb2 hbW))
    ·have hb:(!((qX l[k] locs (l.length-1-k))[7]'(by show 7<8;decide)))=false:=hb;have hb:(qX l[k] locs (l.length-1-k))[7]?=some true:=(by rw [gE (by show 7<8;decide)];exact Gi some (by rw [<- UF ((qX l[k] locs (l.length-1-k))[7]'(by show 7<8;decide)),hb];rfl));refine⟨_,(ze (by omega)).trans rfl,8,(cvE rfl rfl),⟨by omega,fun i hi=>?_,hI3,(zst hb2 hbW)⟩,by decide⟩;by_cases hik:i=7
     ·rw [hik];exact hb
     ·exact hpre i (by omega)
  ·have hc2:¬ (j:Int)<8:=dF hc2;obtain rfl:j=8:=by omega
   have hok:zgq l[k] locs (l.length-1-k)=true:=zlA hpre rfl;refine nxI (by omega) ⟨k+1,(cvE rfl rfl),⟨hkl,fun i hi x hlx=>?_,⟨_,_,hI2⟩,hb2⟩,zdc (by omega)⟩;by_cases hik:i=k
   ·subst hik;rw [gE hkl] at hlx;rw [<- Ud hlx];exact hok
   ·exact hdone i (by omega) x hlx
 ·have hc:¬ (k:Int)<(l.length:Int):=dF hc;obtain rfl:k=l.length:=by omega
  refine⟨rb ?_,hbX⟩;unfold qs;rw [Uq (by omega),Uw,Eq.comm,Qi];intro i hi;have hi:i<l.length:=Um.1 hi;rw [gE hi];exact hdone i hi _ (gE hi)
structure GlobE (w:Wd):Prop where
 c:GlobC w
 t64:Tz64M w
 t32:Tz32M w
theorem GlobE.below {w w2:Wd} (h:GlobE w) (hb:Bw w w2):GlobE w2:=⟨h.c.below hb,h.t64.below hb,h.t32.below hb⟩
abbrev zdN:=PathD×(OA×Nat)×(OA×Nat)×(OA×Nat)×(OA×Nat)
def j0:Enc zdN:=⟨fun x=>zid x.1 x.2.1.1 x.2.1.2 x.2.2.1.1 x.2.2.1.2 x.2.2.2.1.1 x.2.2.2.1.2 x.2.2.2.2.1 x.2.2.2.2.2,12,fun _=>zkJ ..,by decide,fun a u hu=>Qi.1 (zkI ..) u hu⟩
structure RowIn {α:Type} (E:Enc α) (T:TypeId) (B:Nat) (F:Nat->Prop) (Y:Wd) (q:OA) (c:Nat) (l:List α):Prop where
 own:OwnS E T B Y q c l
 inF:∀ a,q=some a->F a.block
section
variable {α:Type} {E:Enc α} {T:TypeId} {B:Nat} {F G:Nat->Prop} {Y Z:Wd} {q:OA} {c:Nat} {l:List α}
theorem zaM (h:OwnS E T B Y q c l) {a:Addr} (ha:q=some a):B<=a.block/\a.block<Y.heap.size/\∃ cur,Y.heap[a.block]?=some (.cells cur T (0,0)):=by
 rcases h.inv with ⟨h1,_⟩ | ⟨g,cur,h1,h2,h3,_⟩
 ·rw [h1] at ha;cases ha
 ·rw [h1] at ha;cases ha;exact⟨h2,hlt h3,cur,h3⟩
theorem RowIn.same (h:RowIn E T B F Y q c l) (hs:∀ k,F k->k<Y.heap.size->Z.heap[k]?=Y.heap[k]?) (hG:∀ k,F k->G k):RowIn E T B G Z q c l :=
 ⟨h.own.same fun a ha=>hs _ (h.inF a ha) (zaM h.own ha).2.1,fun a ha=>hG _ (h.inF a ha)⟩
end
def PthIn (B:Nat) (F:Nat->Prop) (Y:Wd) (x:zdN):Prop:=RowIn evE 49 B F Y x.2.1.1 x.2.1.2 x.1.ev/\RowIn prE 231 B F Y x.2.2.1.1 x.2.2.1.2 x.1.data/\RowIn prE 231 B F Y x.2.2.2.1.1 x.2.2.2.1.2 x.1.ctrl/\RowIn prE 231 B F Y x.2.2.2.2.1 x.2.2.2.2.2 x.1.rmw
theorem PthIn.same {B:Nat} {F G:Nat->Prop} {Y Z:Wd} {x:zdN} (h:PthIn B F Y x) (hs:∀ k,F k->k<Y.heap.size->Z.heap[k]?=Y.heap[k]?) (hG:∀ k,F k->G k):PthIn B G Z x :=
 ⟨h.1.same hs hG,h.2.1.same hs hG,h.2.2.1.same hs hG,h.2.2.2.same hs hG⟩
theorem jw {W A B:Wd} {r:Option Nat} (h:W.grownBy A r) (hb:Below W.heap.size A B):W.grownBy B r :=
 ⟨hb.os.trans h.os,hb.tape.trans h.tape,hb.output.trans h.output,UL h.size hb.size,fun k hk hne=>(hb.block k hk).trans (h.block k hk hne)⟩
theorem zq8 {q:OA} {cap:Nat} {l:List InsD} {w:Wd} (hl:SlR zF w q l) (hG:GlobC w) (hn:l.length<=140737488351232) :
  CB 104 #[.slice q l.length cap] w (.bool (qs l 6)):=by
 refine zI 5 [.slice q l.length cap] Tryz.func104 ?_;refine cmo (zlB (locs:=6) hl hG hn) ?_;rintro e X ⟨rfl,hb⟩;exact⟨rfl,hb⟩
def JPa (B n0 L:Nat) (W:Wd) (pre:List RunD) (F:Nat->Prop) (Y:Wd):Prop :=
 (n0<=Y.heap.size/\F L/\∀ k,F k->k<Y.heap.size)/\(∃ (xs:List zdN) (p:OA) (c:Nat),Y.heap[L]?=some (.cells [.slice p xs.length c].toArray 130 (0,0))/\RowIn j0 138 B F Y p c xs/\xs.map (·.1)=pre.map ja/\∀ x∈xs,PthIn n0 F Y x)/\Below B W Y
theorem JPa.iter {B n0 L:Nat} {W:Wd} (hB:B<=n0) (hn:n0=W.heap.size):JG n0 (fun _=>False) (JPa B n0 L W):=by
 refine⟨?_,?_⟩
 ·rintro pre F A C ⟨⟨h1,h2,h3⟩,⟨xs,p,c,h4,h5,h6,h7⟩,h8⟩ hs;have sf:∀ k,F k->k<A.heap.size->C.heap[k]?=A.heap[k]?:=fun k hk hl=>hs.same k hl (.inr hk);refine⟨⟨UL h1 hs.size,h2,fun k hk=>nL (h3 k hk) hs.size⟩,⟨xs,p,c,(sf L h2 (h3 L h2)).trans h4,h5.same sf fun k h=>h,h6,fun x hx=>(h7 x hx).same sf fun k h=>h⟩,h8.trans ⟨hs.os,hs.tape,hs.output,hs.size,fun k hk=>hs.same k (by omega) (.inl ⟨by omega,fun h=>h⟩)⟩⟩
 ·rintro pre F A k ⟨⟨_,_,h3⟩,_⟩ hk;exact⟨h3 k hk,fun h=>h⟩
def PthO (B:Nat) (Y:Wd) (x:zdN):Prop:=OwnS evE 49 B Y x.2.1.1 x.2.1.2 x.1.ev/\OwnS prE 231 B Y x.2.2.1.1 x.2.2.1.2 x.1.data/\OwnS prE 231 B Y x.2.2.2.1.1 x.2.2.2.1.2 x.1.ctrl/\OwnS prE 231 B Y x.2.2.2.2.1 x.2.2.2.2.2 x.1.rmw
theorem PthO.mono {B B':Nat} {Y:Wd} {x:zdN} (h:PthO B Y x) (hB:B'<=B):PthO B' Y x:=⟨OwnS.lower h.1 hB,OwnS.lower h.2.1 hB,OwnS.lower h.2.2.1 hB,OwnS.lower h.2.2.2 hB⟩
structure RelAt (X:Wd) (b o:Nat) (T:TypeId) (A Z:List Value) (r:RelD):Prop where
 at_:A.length=o
 cells:X.heap[b]?=some (.cells (A++(zf r++Z)).toArray T (0,0))
section
variable {X:Wd} {b o:Nat} {T:TypeId} {A Z:List Value} {r:RelD}
theorem RelAt.cell (h:RelAt X b o T A Z r) {i:Nat} (hi:i<48):X.cell? ⟨b,o+1+i*1,none⟩=some (s64 (r.to i)):=by
 have:(A++(zf r++Z))[o+1+i*1]?=some (s64 (r.to i)):=by
  rw [UW,UC,jc h.at_,Jr (by rw [zh];omega),zeX r hi]
 have h2:=zc (za h.cells) this;rw [UQ] at h2;exact h2
theorem RelAt.set (h:RelAt X b o T A Z r) {i:Nat} (hi:i<48) (v:Nat):(A++(zf r++Z)).set (o+1+i*1) (s64 v)=A++(zf ⟨r.n,upd r.to i v⟩++Z):=by
 rw [UW,UC,qH h.at_,List.set_append_left _ _ (by rw [zh];omega),zeW r hi]
theorem RelAt.len (h:RelAt X b o T A Z r):(A++(zf r++Z)).length=o+49+Z.length:=by
 rw [lap,lap,zh,h.at_];omega
theorem RelAt.same {Y:Wd} (h:RelAt X b o T A Z r) (hs:Y.heap[b]?=X.heap[b]?):RelAt Y b o T A Z r:=⟨h.at_,hs.trans h.cells⟩
def zpv (f:Nat) (ps:List (Nat×Nat)):Prop:=∀ p∈ps,f+p.1<48/\f+p.2<48
theorem zeZ {f:Nat}:∀ {ps:List (Nat×Nat)} {to:Nat->Nat},zG to->zpv f ps->zG (zfF f ps to)
 | [],_,h,_=>h
 | p::ps,to,h,hp=>by
  have h1:=hp p Kz;exact zeZ (ps:=ps) (zgw h (KX (h _ h1.1) (z7 (by omega)))) fun q hq=>hp q (JW _ hq)
theorem zlK {n:Nat} (h:n<256):((UInt8.ofNat n).toNat:Int)=(n:Nat):=by
 have:(UInt8.ofNat n).toNat=n:=by simp;omega
 rw [this]
theorem zpu {w:Wd} {q:OA} {cap f:Nat} {ps:List (Nat×Nat)} (hr:RelAt w b o T A Z r) (hw:zG r.to) (hl:SlR prE w q ps) (hqb:∀ a,q=some a->a.block≠b) (hn:ps.length<=100000) (hp:zpv f ps) :
  Calls PG 109 #[.pointer (some ⟨b,o,none⟩),.slice q ps.length cap,i64 f] w fun e w'=>e = .returned (.tuple #[])/\RelAt w' b o T A Z (zl1 f ps r)/\w.grownBy w' (some b):=by
 refine zI 35 [.pointer (some ⟨b,o,none⟩),.slice q ps.length cap,i64 f] Tryz.func109 ?_;have hbw:=hlt hr.cells;refine⟨Nat×(Nat->Nat),fun s=>⟨[(0,.pointer (some ⟨b,o,none⟩)),(1,.slice q ps.length cap),(2,i64 f),(8,.slice q ps.length cap),(9,i64 ps.length),(10,i64 (s.1:Nat))],[]⟩,
  fun s X=>s.1<=ps.length/\zG s.2/\zfF f (ps.drop s.1) s.2=zfF f ps r.to/\RelAt X b o T A Z ⟨r.n,s.2⟩/\w.grownBy X (some b),fun s=>ps.length-s.1,(0,r.to),
  (cvE rfl rfl),⟨UY _,hw,rfl,hr,qo _ _⟩,?_⟩
 rintro⟨k,g⟩ X ⟨hk,hg,he,hX,gX⟩;dsimp only at hk hg he hX ⊢;have hXs:=gX.size;refine biE (fun hc=>?_) fun hc=>?_
 ·have hc:(k:Int)<(ps.length:Int):=dT hc;have hkl:k<ps.length:=by omega
  obtain⟨pr,hpr⟩:∃ pr,ps[k]=pr:=⟨_,rfl⟩;obtain⟨p1,p2⟩:=hp pr (by rw [<- hpr];exact gM hkl);rw [<- JE hkl,hpr] at he;have he:zfF f (ps.drop (k+1)) (upd g (f+pr.1) (g (f+pr.1)|||2^(f+pr.2)))=zfF f ps r.to:=he;obtain⟨bp,op,rfl,hlp,hat⟩:=hl.at hkl;have hbp:bp≠b:=hqb _ rfl;have hatX:zK X ⟨bp,op+k*2,none⟩ (prE.enc ps[k]):=jy (gX.block bp hlp (by simpa using hbp)) (hat k hkl);refine⟨k,rfl,hkl,prE.enc pr,rfl,by rw [<- hpr];exact hatX,nL hlp hXs,?_⟩;refine zq (X:=X) (v := .agg (prE.enc pr).toArray) zux rfl rfl rfl fun Y hbY fY sY=>DrawE.ord [20] [0,1,2,3,4,5,6,7,8,9,10,11,12,13,14,15,16,17,18,19,20] (by kernel_rfl) ?_;have fY1:Y.heap[X.heap.size]?=some (.cells (prE.enc pr).toArray 231 (0,0)):=fY;have hrY:=hX.same (hbY.block b (nL hbw hXs));refine⟨0,rfl,by decide,?_⟩;refine⟨u8 (UInt8.ofNat pr.1),zc (za (hdr fY1)) (i:=0*1) rfl,((pr.1:Nat):Int),by rw [zlK (by omega)];exact ze (by omega),((f+pr.1:Nat):Int),(ze (by omega)).trans (by omega),f+pr.1,rfl,by omega,?_⟩;refine⟨s64 (g (f+pr.1)),(hrY.same (Y:=Y.drew) rfl).cell p1,1,rfl,by decide,?_⟩;refine⟨u8 (UInt8.ofNat pr.2),zc (za (hdr fY1)) (i:=1*1) rfl,((pr.2:Nat):Int),by rw [zlK (by omega)];exact ze (by omega),((f+pr.2:Nat):Int),(ze (by omega)).trans (by omega),by omega,_,j5 (e:=f+pr.2) (by omega),_,zak (hg _ p1) (z7 (by omega)),f+pr.1,rfl,by omega,?_⟩;refine zm k36 (hrY.same (Y:=Y.drew) rfl).cells (o:=o+1+(f+pr.1)*1) (v:=s64 (g (f+pr.1)|||2^(f+pr.2))) rfl rfl (by rw [hrY.len];omega) rfl fun S fS gS sS=>?_;rw [hrY.set p1] at fS;exact nxI (by omega) ⟨(k+1,_),(cvE rfl rfl),⟨hkl,zgw hg (KX (hg _ p1) (z7 (by omega))),he,⟨hr.at_,fS⟩,zd gX (zd (zi hbY) (zd (zi (Ga _ Y).drew) gS))⟩,zdc (by omega)⟩
 ·have hc:¬ (k:Int)<(ps.length:Int):=dF hc;obtain rfl:k=ps.length:=by omega
  rw [Ql] at he;have he:g=zfF f ps r.to:=he;subst he;exact⟨rfl,hX,gX⟩
end
def zvf (pre:List Nat) (vs:List Value) (W:Wd):Prop:=∃ (a i:Nat),pre.getLast?=some a/\vs=[i64 i,i64 a]
theorem zt4 {bx:Nat} {l:List Nat} {q:OA} {c:Nat} {W0:Wd} (fx:W0.heap[bx]?=some (.cells #[.slice q l.length c] 62 (0,0))) (hl:SlR zA W0 q l) (hql:∀ a,q=some a->a.block<W0.heap.size) (hn:l.length<=100000) :
  zjb PG 156 [At0 bx] l.reverse W0 (fun k=>k=bx\/∃ a,q=some a/\k=a.block) (fun _=>False) zvf:=by
 intro yl F0 J Jx W hsz hrd hrf hJ hJx hy h0;have fxW:=(hrd bx (.inl (.inl rfl))).trans fx;have hlW:SlR zA W q l:=ji hl fun a ha=>hrd _ (.inl (.inr ⟨a,ha,rfl⟩));have hbxW:=hlt fxW;refine zI 19 [.func (.yield yl) #[] #[],At0 bx] Tryz.func156 ?_;refine⟨_,zc (za fxW) (i:=0) rfl,((l.length:Nat):Int)-1,ze (by omega),?_⟩;refine⟨Nat×(Nat->Prop),fun s=>⟨[(0,.func (.yield yl) #[] #[]),(1,At0 bx),(3,i64 (((l.length:Nat):Int)-1-(s.1:Nat)))],[]⟩,
  fun s V=>s.1<=l.length/\J (l.reverse.take s.1) s.2 V/\W.heap.size<=V.heap.size/\V.heap[bx]?=some (.cells #[.slice q l.length c] 62 (0,0))/\¬ s.2 bx/\RowF zA W.heap.size s.2 V q l,fun s=>l.length-s.1,(0,F0),
  ⟨.cons rfl (.cons rfl (.cons (by show _=some (i64 (((l.length:Nat):Int)-1-((0:Nat):Int)));rw [Int.ofNat_zero,Int.sub_zero];rfl) .nil)),rfl⟩,⟨UY _,h0,UV _,fxW,hrf _ (.inl rfl),⟨hlW,fun a ha=>⟨by have:=hql a ha;omega,hrf _ (.inr ⟨a,ha,rfl⟩)⟩⟩⟩,?_⟩
 rintro⟨t,F⟩ V ⟨ht,hjV,hWV,fxV,hbF,hqV⟩;dsimp only at ht hjV hbF hqV ⊢;refine biE (fun hi=>?_) fun hi=>?_
 ·have hi:(0:Int)<=((l.length:Nat):Int)-1-(t:Nat):=dT hi;obtain⟨i,hit⟩:∃ i,i+t+1=l.length:=⟨l.length-1-t,by omega⟩;have hii:((l.length:Nat):Int)-1-(t:Nat)=(i:Nat):=by omega
  rw [hii];have hil:i<l.length:=by omega
  have hrt:l.reverse[t]?=some l[i]:=by
   rw [JK (by omega),show l.length-1-t=i by omega,gE hil]
  have htl:t<l.reverse.length:=by rw [Kj];omega
  have hre:l.reverse[t]=l[i]:=by rw [gE htl] at hrt;exact Ud hrt
  have htk:l.reverse.take (t+1)=l.reverse.take t++[l[i]]:=by rw [tsg htl,hre]
  refine⟨_,zc (za fxV) (i:=0) rfl,?_⟩;obtain⟨bq,oq,hqe,hlq,hatq⟩:=hqV.row.at hil;subst hqe;refine⟨i,rfl,hil,i64 l[i],zc (hatq i hil) (i:=0) rfl,YieldR.mono (hy _ l[i] [i64 (i:Nat),i64 l[i]] F V hjV ⟨l[i],i,by simp,rfl⟩ (by rw [<- htk];exact List.take_prefix _ _)) ?_⟩;rintro v Y (⟨rfl,F',hjY,kY⟩ | ⟨rfl,F',hjY⟩)
  ·refine brF ?_;have hbF':¬ F' bx:=fun h=>by
    rcases kY.fp bx h with h | h
    ·exact hbF h
    ·have:=hlt fxV;omega
   exact⟨((l.length:Nat):Int)-1-((t+1:Nat):Int),(ze (by omega)).trans (by omega),(t+1,F'),(cvE rfl rfl),⟨by omega,by rw [htk];exact hjY,UL hWV kY.size,(kY.same bx (hlt fxV) hbF).trans fxV,hbF',hqV.keep hWV kY (fun _ _ h=>h)⟩,zdc (by omega)⟩
  ·exact brT ⟨⟨_,rfl⟩,.inr ⟨_,F',by rw [<- htk];exact List.take_prefix _ _,hjY⟩⟩
 ·have hi:¬ (0:Int)<=((l.length:Nat):Int)-1-(t:Nat):=dF hi;have hte:t=l.length:=by omega
  subst hte;rw [JF (by rw [Kj];exact UV _)] at hjV;exact⟨⟨_,rfl⟩,.inl ⟨F,hjV⟩⟩
theorem zsx {q:OA} {n c:Nat} {w:Wd}:Calls PG 113 #[.slice q n c] w fun e w'=>e = .returned (.func (.func 156) #[] #[At0 w.heap.size])/\w'.heap[w.heap.size]?=some (.cells #[.slice q n c] 62 (0,0))/\w'.heap.size=w.heap.size+1/\Bw w w':=by
 refine zI 4 [.slice q n c] Tryz.func113 ?_;exact⟨rfl,zw w _,wz _ _,(zba w _)⟩
theorem zpC {q:OA} {n c:Nat} {w:Wd}:Calls PG 75 #[.slice q n c] w fun e w'=>e = .returned (.func (.func 106) #[] #[At0 w.heap.size])/\w'.heap[w.heap.size]?=some (.cells #[.slice q n c] 62 (0,0))/\w'.heap.size=w.heap.size+1/\Bw w w':=by
 refine zI 4 [.slice q n c] Tryz.func75 ?_;exact⟨rfl,zw w _,wz _ _,(zba w _)⟩
def zgp (p:(Nat->Nat)×Nat) (a:Nat):(Nat->Nat)×Nat:=(upd p.1 a p.2,p.2|||2^a)
theorem zew:∀ (l:List Nat) (f:Nat->Nat) (b:Nat),zeh l f b=(l.foldl zgp (f,b)).1
 | [],_,_=>rfl
 | a::l,f,b=>zew l (upd f a b) (b|||2^a)
theorem zjI:∀ {l:List Nat} {f:Nat->Nat} {b:Nat},zG f->b<2^64->(∀ a∈l,a<48)->zG (l.foldl zgp (f,b)).1/\(l.foldl zgp (f,b)).2<2^64
 | [],_,_,h,hb,_=>⟨h,hb⟩
 | a::l,f,b,h,hb,hl=>zjI (l:=l) (zgw h hb) (KX hb (z7 (by have:=hl a Kz;omega))) fun x hx=>hl x (JW _ hx)
theorem ziQ {l:List Nat} {r:RelD} (h:zG r.to) (hl:∀ a∈l,a<48):zG (j9 l r).to:=by
 show zG (zeh l.reverse r.to 0);rw [zew];exact (zjI h (by decide) fun a ha=>hl a (by simpa using ha)).1
section
variable {b o:Nat} {T:TypeId} {A Z:List Value} {r:RelD} {w:Wd} {q:OA} {c:Nat} {l:List Nat}
theorem zpO (hr:RelAt w b o T A Z r) (hw:zG r.to) (hl:SlR zA w q l) (hql:∀ a,q=some a->a.block<w.heap.size/\a.block≠b) (hn:l.length<=100000) (h48:∀ a∈l,a<48) :
  Calls PG 80 #[.pointer (some ⟨b,o,none⟩),.slice q l.length c] w fun e w'=>e = .returned (.tuple #[])/\RelAt w' b o T A Z (j9 l r)/\w.grownBy w' (some b):=by
 refine qA 21 [.pointer (some ⟨b,o,none⟩),.slice q l.length c] (.s .p (.c .p .p)) Tryz.func80 ?_;obtain⟨L,hL⟩:=nm (w.heap.size);refine⟨Unit,fun _=>⟨[(1,.slice q l.length c),(2,At0 L),(4,At0 (L+1))],[]⟩,fun _ X=>X.heap[L]?=some (.cells #[.pointer (some ⟨b,o,none⟩)] 103 (0,0))/\X.heap[L+1]?=some (.cells #[s64 0] 36 (0,0))/\X.heap.size=L+2/\Bw w X,?_,?_⟩
 ·have s1:=wz w (.cells #[.pointer (some ⟨b,o,none⟩)] 103 (0,0));have h2:=zw (w.alloc (.cells #[.pointer (some ⟨b,o,none⟩)] 103 (0,0))) (.cells #[s64 0] 36 (0,0));have s2:=wz (w.alloc (.cells #[.pointer (some ⟨b,o,none⟩)] 103 (0,0))) (.cells #[s64 0] 36 (0,0));rw [s1] at h2 s2;exact⟨(),⟨.cons rfl (.cons (by rw [hL];rfl) (.cons (by rw [hL,<- s1];rfl) .nil)),rfl⟩,by rw [hL];exact qM _ (zw w _),by rw [hL];exact h2,by rw [hL];exact s2,((zba w _)).alloc (by simp) _⟩
 rintro _ X ⟨f0,f1,sX,hbX⟩;have hbw:=hlt hr.cells;refine cmo zsx ?_;rintro e W ⟨rfl,fx,sW,hbW⟩;have hwW:=zst hbX hbW;have hI:=zt4 fx (hl.below hwW) (fun a ha=>by have:=(hql a ha).1;omega) hn;have f0:=zb hbW f0;have f1:=zb hbW f1;refine zdq (zbC _) rfl (lb := #[At0 X.heap.size]) rfl rfl hI (UV _) (fun k hk=>⟨?_,rfl⟩) (fun pre vs W ⟨a,i,_,h⟩=>by rw [h];rfl) (by decide)
  (fun k=>k=b\/k=L+1) (fun pre F Y=>F=(fun k=>k=b\/k=L+1)/\W.heap.size<=Y.heap.size/\RelAt Y b o T A Z ⟨r.n,(pre.foldl zgp (r.to,0)).1⟩/\Y.heap[L+1]?=some (.cells [s64 (pre.foldl zgp (r.to,0)).2].toArray 36 (0,0))/\Y.heap[L]?=some (.cells #[.pointer (some ⟨b,o,none⟩)] 103 (0,0))/\w.grownBy Y (some b)) (fun _ _ _ _=>False) (fun k hk=>?_)
  (joG (F:=fun k=>k=b\/k=L+1) (J:=fun (pre:List Nat) Y=>W.heap.size<=Y.heap.size/\RelAt Y b o T A Z ⟨r.n,(pre.foldl zgp (r.to,0)).1⟩/\Y.heap[L+1]?=some (.cells [s64 (pre.foldl zgp (r.to,0)).2].toArray 36 (0,0))/\Y.heap[L]?=some (.cells #[.pointer (some ⟨b,o,none⟩)] 103 (0,0))/\w.grownBy Y (some b))
   (fun k h=>by omega) (fun s A h=>h.1) (fun pre A B ⟨h1,h2,h3,h4,h5⟩ hb=>⟨UL h1 hb.size,h2.same (hb.block _ (by omega)),jr hb (by omega) h3,jr hb (by omega) h4,jw h5 (hb.mono hwW.size)⟩))
  (fun ex=>⟨fun _ _ _ _ h=>h.elim,fun _ _ _ _ h=>h.elim⟩) ⟨rfl,UV _,hr.same (hwW.block _ hbw),f1,f0,zi hwW⟩ ?_ ?_ ?_
 ·rcases hk with (rfl | ⟨a,ha,rfl⟩) | h
  ·omega
  ·have:=(hql a ha).1;have:=hwW.size;omega
  ·exact h.elim
 ·rcases hk with rfl | ⟨a,ha,rfl⟩
  ·omega
  ·have:=hql a ha;omega
 ·rintro yl pre x vs F Y hyl hpre hJ ⟨a,i,hlast,rfl⟩ hfy hlo;have hxa:x=a:=by simpa using hlast
  subst hxa;refine⟨rfl,F,KeepsG.refl _ _,hJ,?_⟩;rintro O Y2 hY2 ⟨rfl,h1,h2,h3,h4,h5⟩;obtain⟨g1,g2⟩:=zjI (l:=pre) (f:=r.to) (b:=0) hw (by decide) (fun a ha=>h48 a (by have:=hpre.subset (JV _ ha);simpa using this));have hx48:x<48:=h48 x (by have:=hpre.subset (JN _ (KA.2 rfl));simpa using this);have hfold:(pre++[x]).foldl zgp (r.to,0)=zgp (pre.foldl zgp (r.to,0)) x:=by rw [KS];rfl
  obtain⟨P,hP⟩:=nm (pre.foldl zgp (r.to,0));rw [<- hP] at h2 h3 g1 g2 hfold;refine DrawE.ord [6] [0,1,2,3,4,5,6] (by kernel_rfl) ⟨_,zc (za (hdr h4)) (i:=0) rfl,_,zc (za (hdr h3)) (i:=0) rfl,x,rfl,hx48,zm k36 (h2.same (Y:=Y2.drew) rfl).cells (o:=o+1+x*1) (v:=s64 P.2) rfl rfl (by rw [h2.len];omega) rfl fun S fS gS sS=>?_⟩;rw [h2.set hx48] at fS;have gS2:Y2.grownBy S (some b):=zd (zi (Ga _ Y2).drew) gS;have h3S:=(gS2.block (L+1) (hlt h3) (by simp;omega)).trans h3;refine DrawE.ord [4] [0,1,2,3,4] (by kernel_rfl) ⟨_,zc (za (hdr h3S)) (i:=0) rfl,by omega,_,j5 (e:=x) (by omega),_,zak g2 (z7 (by omega)),zm k36 (hdr h3S) (o:=0) (v:=s64 (P.2|||2^x)) rfl rfl (by show 0<1;decide) rfl fun V fV gV sV=>?_⟩;have gV2:S.grownBy V (some (L+1)):=zd (zi (Ga _ S).drew) gV;have hLw:L=w.heap.size:=hL;refine⟨fun k=>k=b\/k=L+1,⟨rfl,?_,⟨hr.at_,?_⟩,by rw [hfold];exact fV,?_,?_⟩,(KeepsG.grown gS2 (.inl rfl)).trans (KeepsG.grown gV2 (.inr rfl))⟩
  ·have:=gS2.size;have:=gV2.size;omega
  ·rw [hfold];exact (gV2.block b (hlt fS) (by simp;omega)).trans fS
  ·exact (gV2.block L (nL (hlt h4) gS2.size) (by simp)).trans ((gS2.block L (hlt h4) (by simp;omega)).trans h4)
  ·exact⟨gV2.os.trans (gS2.os.trans h5.os),gV2.tape.trans (gS2.tape.trans h5.tape),gV2.output.trans (gS2.output.trans h5.output),by have:=gS2.size;have:=gV2.size;have:=h5.size;omega,fun k hk hne=>(gV2.block k (by have:=gS2.size;have:=h5.size;omega) (by simp;omega)).trans ((gS2.block k (by have:=h5.size;omega) hne).trans (h5.block k hk hne))⟩
 ·rintro D F Y hD hfD ⟨rfl,h1,h2,h3,h4,h5⟩ hdef;refine⟨_,rfl,hdef,?_⟩;have hDb:b≠D:=by have:=hwW.size;omega
  refine⟨rfl,⟨hr.at_,?_⟩,?_⟩
  ·rw [show j9 l r=⟨r.n,(l.reverse.foldl zgp (r.to,0)).1⟩ by unfold j9;rw [zew]];exact (zj hDb).trans h2.cells
  ·exact⟨h5.os,h5.tape,h5.output,by have:=h5.size;simpa [World.putObj] using this,fun k hk hne=>(zj (by have:=hwW.size;omega)).trans (h5.block k hk hne)⟩
 ·rintro D ex pre F Y hD hfD hpre h;exact h.elim
end
theorem zjB {P:Program} {iT:TI} {T B g cap i v:Nat} {l:List Nat} {w:Wd} (hT:TIok P T iT) (hs:iT.size=1) (h:OwnS zA T B w (some ⟨g,0,none⟩) cap l) (hi:i<l.length) {K:Wd->Prop}
  (k:∀ w',OwnS zA T B w' (some ⟨g,0,none⟩) cap (l.set i v)->w.grownBy w' (some g)->K w'):SatR ((storeVar T ⟨g,0+i*1,none⟩ (i64 v)).run P w) fun _ w'=>K w':=by
 rcases h.inv with ⟨h,_⟩ | ⟨g',cur,hg,hB,hc,hl,hm,hs2,ht⟩
 ·cases h
 ·simp only [KY,Us,Gh] at hg;subst hg;have e:cur=cur.toList.toArray:=rfl;have hsz:cur.toList.length=cap:=by
   have:cur.toList.length=cur.size:=rfl;rw [this,hs2];exact UW _
  refine zm hT (cs:=cur.toList) (by rw [<- e];exact hc) (o:=0+i*1) (v:=i64 v) rfl hs (by omega) rfl fun w' fw gw sw=>k w' ?_ gw;unfold OwnS World.ownsRow;have ht:cur.toList.take (l.length*1)=l.flatMap zA.enc:=ht;refine⟨by rw [qE],.inr ⟨g,cap,_,rfl,hB,fw,by rw [QN];exact hl,hm,?_,?_⟩⟩
  ·show (cur.toList.set (0+i*1) (i64 v)).length=_;rw [QN];exact hs2
  ·show (cur.toList.set (0+i*1) (i64 v)).take ((l.set i v).length*1)=_;rw [UW,UQ,UW,QN,List.take_set,<- UW l.length,ht,ze5,ze5];unfold zjt;rw [UH]
theorem zrX {before:Nat->Nat}:∀ (m left:Nat) (l:List Nat),∀ x∈zav before m left l,∀ a∈x,a∈l\/a∈els left:=by
 intro m
 induction m with
 | zero =>
  intro left l x hx a ha;unfold zav at hx
  split at hx
  ·rw [KA.1 hx] at ha;exact .inl ha
  ·cases hx
 | succ m ih =>
  intro left l x hx a ha;unfold zav at hx
  split at hx
  ·rw [KA.1 hx] at ha;exact .inl ha
  ·obtain⟨b,hb,hx⟩:=List.mem_flatMap.1 hx
   split at hx
   ·rcases ih _ _ x hx a ha with h | h
    ·rcases QQ.1 h with h | h
     ·exact .inl h
     ·rw [KA.1 h];exact .inr hb
    ·refine .inr ?_;unfold els at h ⊢;rw [QR] at h ⊢;refine⟨h.1,?_⟩;have h2:=h.2;unfold jL at h2;rw [Ua,bAT] at h2;exact h2.1
   ·cases hx
theorem zrs {r:RelD} {n:Nat} (hr:r.n=n) (hn:n<=64) {x:List Nat} (h:x∈zbt r) {a:Nat} (ha:a∈x):a<n:=by
 unfold zbt at h
 split at h
 ·rcases zrX _ _ _ x h a ha with h | h
  ·cases h
  ·rw [zaL,hr,zd3 hn] at h;exact Um.1 h
 ·cases h
abbrev crs (n:Nat):RelD:=zhX n 1 (jL (zab n) 1)
theorem zqo:∀ n,n<=48->okR (crs n)=true:=by
 intro n hn;have h:(List.range 49).all (fun n=>okR (crs n))=true:=by kernel_rfl
 rw [Qi] at h;exact h n (Um.2 (by omega))
theorem zd9 (n:Int):zab n<2^64:=zaK n
theorem znx (n:Nat):zG (crs n).to:=fun i _=>by
 show (if i<n then (if Nat.testBit 1 i then jL (zab n) 1&&&zab n else 0) else 0)<2^64
 split
 ·split
  ·exact KE Qw (zd9 n)
  ·decide
 ·decide
def zbP (ws:List Nat) (o:List Nat):List Nat:=o.map fun k=>ws.getD k 0
theorem zrm {ws o:List Nat} {i:Nat} (hi:i<o.length) (h:i<(zbP ws (o.take i)++o.drop i).length):(zbP ws (o.take i)++o.drop i)[i]=o[i]:=by
 have hl:(zbP ws (o.take i)).length=i:=by unfold zbP;rw [QL,Qt,QY (by omega)]
 have h2:(zbP ws (o.take i)++o.drop i)[i]?=o[i]?:=by
  rw [Jn (by omega),hl,UN,Kw,UK]
 rw [gE h,gE hi] at h2;exact Ud h2
theorem zpo {ws o:List Nat} {i:Nat} (hi:i<o.length) (ho:o[i]<ws.length):(zbP ws (o.take i)++o.drop i).set i ws[o[i]]=zbP ws (o.take (i+1))++o.drop (i+1):=by
 have hl:(zbP ws (o.take i)).length=i:=by unfold zbP;rw [QL,Qt,QY (by omega)]
 rw [JO _ _ (by omega),hl,UN,<- JE hi,List.set_cons_zero,tsg hi];unfold zbP;rw [QO,KN,UA,List.map_nil,gDe,gE ho];rfl
section
variable {q:OA} {c:Nat} {ws:List Nat} {w:Wd}
theorem zpz (hl:SlR zA w q ws) (hn:ws.length<=48) (hT:Tz64M w) :
  Calls PG 78 #[.slice q ws.length c] w fun e w'=>(∃ (xs:List (List Nat×OA×Nat)) (p:OA) (c':Nat),e = .returned (.slice p xs.length c')/\xs.map (·.1)=zM ws/\OwnS jk 62 w.heap.size w' p c' xs/\∀ x∈xs,OwnS zA 3 w.heap.size w' x.2.1 x.2.2 x.1)/\Bw w w':=by
 refine qA 44 [.slice q ws.length c] (.s .p (.s .p (.c .p .p))) Tryz.func78 ?_;obtain⟨B,hB⟩:=nm (w.heap.size);refine⟨List (List Nat×OA×Nat)×OA×Nat,fun s=>⟨[(0,.slice q ws.length c),(4,.slice s.2.1 s.1.length s.2.2)],[]⟩,fun s X=>(zM ws=(s.1.map (·.1)).map (zbP ws)/\AscB s.1/\s.1.length<=10000/\∀ x∈s.1,x.1.length<=64/\∀ a∈x.1,a<ws.length)/\OwnS jk 62 B X s.2.1 s.2.2 s.1/\(∀ x∈s.1,OwnS zA 3 B X x.2.1 x.2.2 x.1)/\Bw w X,?_,?_⟩
 ·refine cmo zjd ?_;rintro e _ ⟨rfl,rfl⟩;refine⟨_,zct (zaK _) (by decide:1<2^64),cmo (zsH (n:=ws.length) (a:=1) (b:=qT (zaA ws.length) 1) hn (by decide) (zam (zaK _))) ?_⟩;rintro e X ⟨rfl,hbX⟩;refine cmo (zqU (r:=crs ws.length) (m:=10000) (znx _) (hT.below hbX) (UV _) (zqo _ hn)) ?_;rintro e Y ⟨⟨hm,xs,p,c',rfl,hxs,hasc,ho,hx⟩ | ⟨hm,rfl⟩,hbY⟩
  ·refine⟨(xs,p,c'),(cvE rfl rfl),⟨?_,hasc,?_,fun x hx=>?_⟩,ho.lower (by rw [hB];exact hbX.size),fun x h=>(hx x h).lower (by rw [hB];exact hbX.size),(zst hbX hbY)⟩
   ·show zM ws=(xs.map (·.1)).map (zbP ws);rw [hxs];unfold zM;exact Gn hm
   ·show xs.length<=10000;rw [<- hxs,QL] at hm;exact hm
   ·have hmem:x.1∈zbt (crs ws.length):=(by rw [<- hxs];exact UI.2 ⟨x,hx,rfl⟩);exact⟨zna hmem,fun a ha=>zrs rfl (by omega) hmem ha⟩
  ·refine⟨([],none,0),(cvE rfl rfl),⟨?_,List.Pairwise.nil,UY _,fun x hx=>(by cases hx)⟩,OwnS.nil,fun x hx=>(by cases hx),(zst hbX hbY)⟩;show zM ws=[];unfold zM;exact Gm (by show ¬ (zbt (crs ws.length)).length<=10000;omega)
 rintro⟨xs,p,c'⟩ X ⟨⟨hrk,hasc,hxl,hxx⟩,ho,hx,hbX⟩;dsimp only at hrk hasc hxl hxx ho hx ⊢;have hbs:=hbX.size;refine⟨Nat,fun k=>⟨[(0,.slice q ws.length c),(4,.slice p xs.length c'),(21,.slice p xs.length c'),(22,i64 xs.length),(23,i64 (k:Nat))],[]⟩,
  fun k Z=>k<=xs.length/\OwnS jk 62 B Z p c' xs/\(∀ x∈xs.take k,OwnS zA 3 B Z x.2.1 x.2.2 (zbP ws x.1))/\(∀ x∈xs.drop k,OwnS zA 3 B Z x.2.1 x.2.2 x.1)/\Bw w Z,fun k=>xs.length-k,0,
  (cvE rfl rfl),⟨UY _,ho,fun x h=>(by rw [Un] at h;cases h),fun x h=>hx x h,hbX⟩,?_⟩
 clear ho hx hbX hbs;rintro k Z ⟨hk,ho,htk,hdr,hbZ⟩;have hbs:=hbZ.size;refine biE (fun hc=>?_) fun hc=>?_
 ·have hc:(k:Int)<(xs.length:Int):=dT hc;have hkl:k<xs.length:=by omega
  obtain⟨x,hxk⟩:∃ x,xs[k]=x:=⟨_,rfl⟩;have hxm:x∈xs:=by rw [<- hxk];exact gM hkl
  obtain⟨hx64,hxa⟩:=hxx x hxm;have hsplit:xs=xs.take k++x::xs.drop (k+1):=by rw [<- hxk,JE,JP]
  have hdrop:xs.drop k=x::xs.drop (k+1):=by rw [<- hxk,JE]
  have hox:OwnS zA 3 B Z x.2.1 x.2.2 x.1:=hdr x (by rw [hdrop];simp);obtain⟨bp,op,hpe,hlp,hat⟩:=ho.row.at hkl;subst hpe;refine⟨k,rfl,hkl,.slice x.2.1 x.1.length x.2.2,by rw [<- hxk];exact zc (hat k hkl) (i:=0) rfl,?_⟩;refine⟨Nat,fun i=>⟨[(0,.slice q ws.length c),(4,.slice (some ⟨bp,op,none⟩) xs.length c'),(7,.slice x.2.1 x.1.length x.2.2),(21,.slice (some ⟨bp,op,none⟩) xs.length c'),(22,i64 xs.length),(23,i64 (k:Nat)),(27,.slice x.2.1 x.1.length x.2.2),(28,i64 x.1.length),(29,i64 (i:Nat))],[]⟩,
   fun i V=>i<=x.1.length/\OwnS zA 3 B V x.2.1 x.2.2 (zbP ws (x.1.take i)++x.1.drop i)/\Z.grownBy V (x.2.1.map Addr.block),fun i=>x.1.length-i,0,
   (cvE rfl rfl),⟨UY _,hox,qo _ _⟩,?_⟩
  rintro i V ⟨hi,hoV,gV⟩;refine biE (fun hc=>?_) fun hc=>?_
  ·have hc:(i:Int)<(x.1.length:Int):=dT hc;have hil:i<x.1.length:=by omega
   have hlen:(zbP ws (x.1.take i)++x.1.drop i).length=x.1.length:=by
    unfold zbP;simp;omega
   have hgi:(zbP ws (x.1.take i)++x.1.drop i)[i]'(by omega)=x.1[i]:=by
    exact zrm hil (by omega)
   obtain⟨b',o',hqe,hlq,hat'⟩:=hoV.row.at (i:=i) (by omega);have hao:=hxa x.1[i] (gM hil);obtain⟨bw,ow,hwe,hlw,hatw⟩:=hl.at hao;subst hwe;have hq0:∃ g,x.2.1=some ⟨g,0,none⟩:=by
    rcases hoV.inv with ⟨h,_⟩ | ⟨g,cur,h,_⟩
    ·rw [h] at hqe;cases hqe
    ·exact⟨g,h⟩
   obtain⟨g,hg⟩:=hq0;have hbo:b'=g/\o'=0:=by rw [hg] at hqe;simpa using hqe.symm
   obtain⟨rfl,rfl⟩:=hbo;rw [hg] at hoV gV ⊢;have hBg:=(zx hoV rfl).1;refine⟨i,rfl,hil,i64 x.1[i],by have:=zc (hat' i (by omega)) (i:=0) (v:=i64 x.1[i]) (by rw [hgi];rfl);exact this,x.1[i],rfl,hao,?_⟩;have hVw:V.heap[bw]?=w.heap[bw]?:=(gV.block bw (by omega) (by have:B<=b':=hBg;simp;omega)).trans (hbZ.block bw hlw);refine⟨i64 ws[x.1[i]],zc (jy hVw (hatw _ hao)) (i:=0) rfl,i,rfl,hil,zjB (i:=i) (v:=ws[x.1[i]]) k3 rfl hoV (by omega) fun V' oV' gV'=>nxI (by omega) ⟨i+1,(cvE rfl rfl),⟨hil,?_,zd gV gV'⟩,zdc (by omega)⟩⟩;have e:(zbP ws (x.1.take i)++x.1.drop i).set i ws[x.1[i]]=zbP ws (x.1.take (i+1))++x.1.drop (i+1):=zpo hil hao;rw [e] at oV';exact oV'
  ·have hc:¬ (i:Int)<(x.1.length:Int):=dF hc;obtain rfl:i=x.1.length:=by omega
   rw [Qv,Ql,QI] at hoV;have keepI:∀ y:List Nat×OA×Nat,∀ l',OwnS zA 3 B Z y.2.1 y.2.2 l'->(∀ a b,x.2.1=some a->y.2.1=some b->a.block≠b.block)->OwnS zA 3 B V y.2.1 y.2.2 l':=fun y l' hy hne=>hy.same fun b hb=>gV.block _ (zx hy hb).2.1 (by
    intro e
    cases hx1:x.2.1 with
    | none=>rw [hx1] at e;cases e
    | some a =>
     rw [hx1] at e;simp only [Uc,KY] at e;exact hne a b hx1 hb e.symm)
   unfold AscB at hasc;rw [hsplit,Ka,List.pairwise_cons] at hasc;obtain⟨_,⟨hA1,_⟩,hA2⟩:=hasc;refine nxI (by omega) ⟨k+1,(cvE rfl rfl),⟨hkl,?_,fun y hy=>?_,fun y hy=>?_,?_⟩,zdc (by omega)⟩
   ·refine ho.same fun a ha=>gV.block _ (zx ho ha).2.1 fun e=>?_
    cases hx1:x.2.1 with
    | none=>rw [hx1] at e;cases e
    | some a2 =>
     rw [hx1] at e;simp only [Uc,KY] at e;obtain⟨_,_,c1,h1⟩:=zx ho ha;obtain⟨_,_,c2,h2⟩:=zx hox hx1;rw [<- e,h1] at h2;simp at h2
   ·rw [tsg hkl,hxk] at hy;rcases QQ.1 hy with hy | hy
    ·exact keepI y _ (htk y hy) fun a b ha hb e=>by
      have:=hA2 y hy x (by simp) b a hb ha;omega
    ·rw [KA.1 hy];exact hoV
   ·exact keepI y _ (hdr y (by rw [hdrop];exact JW _ hy)) fun a b ha hb e=>by
     have:=hA1 y hy a b ha hb;omega
   ·cases hx1:x.2.1 with
    | none =>
     rw [hx1] at gV;exact hbZ.trans ⟨gV.os,gV.tape,gV.output,gV.size,fun j hj=>gV.block j (by omega) (fun e=>by cases e)⟩
    | some a =>
     rw [hx1] at gV;exact hbZ.trans (zk gV hbs (by have:=(zx hox hx1).1;omega))
 ·have hc:¬ (k:Int)<(xs.length:Int):=dF hc;obtain rfl:k=xs.length:=by omega
  rw [Qv] at htk;refine⟨⟨xs.map fun x=>(zbP ws x.1,x.2),p,c',by rw [QL];rfl,?_,?_,fun y hy=>?_⟩,hbZ⟩
  ·rw [hrk,UG,UG];rfl
  ·rw [<- hB];have e1:(xs.map fun x=>(zbP ws x.1,x.2)).flatMap jk.enc=xs.flatMap jk.enc:=by
    rw [Qn];congr 1;funext x;show [Value.slice x.2.1 (zbP ws x.1).length x.2.2]=[Value.slice x.2.1 x.1.length x.2.2];unfold zbP;rw [QL]
   unfold OwnS at ho ⊢;rw [e1,QL];exact ho
  ·obtain⟨x,hx,rfl⟩:=UI.1 hy;rw [<- hB];exact htk x hx
end
def exC (x:ExD) (q:OA) (c:Nat):List Value := .slice q x.ev.length c::(zf x.po++(zf x.rf++(zf x.co++(zf x.dt++(zf x.ct++(zf x.rm++(seg 32 (fun i=>u8 (x.regs i))++seg 6 (fun i=>u8 (x.mem i)))))))))
theorem zC (x:ExD) (q:OA) (c:Nat):(exC x q c).length=333:=by
 unfold exC;simp only [Qr,lap,zh,zE]
theorem za3 (x:ExD) (q:OA) (c:Nat):(exC x q c).all Value.oneCell'=true:=by
 unfold exC;rw [Uy,QH,QH,QH,QH,QH,QH,QH,zD,zD,zD,zD,zD,zD,zbD fun _=>rfl,zbD fun _=>rfl];rfl
section
variable (x:ExD) (q:OA) (c:Nat) (S:List Value)
theorem zno:∃ A Z,A.length=1/\∀ r,exC { x with po:=r } q c++S=A++(zf r++Z) :=
 ⟨.slice q x.ev.length c::[],(zf x.rf++(zf x.co++(zf x.dt++(zf x.ct++(zf x.rm++(seg 32 (fun i=>u8 (x.regs i))++(seg 6 (fun i=>u8 (x.mem i))++S))))))),by simp only [Qr,QM,lap,zh],fun r=>by simp only [exC,KN,Qk,QS]⟩
theorem zsQ:∃ A Z,A.length=50/\∀ r,exC { x with rf:=r } q c++S=A++(zf r++Z) :=
 ⟨.slice q x.ev.length c::zf x.po,(zf x.co++(zf x.dt++(zf x.ct++(zf x.rm++(seg 32 (fun i=>u8 (x.regs i))++(seg 6 (fun i=>u8 (x.mem i))++S)))))),by simp only [Qr,QM,lap,zh],fun r=>by simp only [exC,KN,Qk,QS]⟩
theorem zsS:∃ A Z,A.length=99/\∀ r,exC { x with co:=r } q c++S=A++(zf r++Z) :=
 ⟨.slice q x.ev.length c::(zf x.po++zf x.rf),(zf x.dt++(zf x.ct++(zf x.rm++(seg 32 (fun i=>u8 (x.regs i))++(seg 6 (fun i=>u8 (x.mem i))++S))))),by simp only [Qr,QM,lap,zh],fun r=>by simp only [exC,KN,Qk,QS]⟩
theorem znp:∃ A Z,A.length=148/\∀ r,exC { x with dt:=r } q c++S=A++(zf r++Z) :=
 ⟨.slice q x.ev.length c::(zf x.po++(zf x.rf++zf x.co)),(zf x.ct++(zf x.rm++(seg 32 (fun i=>u8 (x.regs i))++(seg 6 (fun i=>u8 (x.mem i))++S)))),by simp only [Qr,QM,lap,zh],fun r=>by simp only [exC,KN,Qk,QS]⟩
theorem znq:∃ A Z,A.length=197/\∀ r,exC { x with ct:=r } q c++S=A++(zf r++Z) :=
 ⟨.slice q x.ev.length c::(zf x.po++(zf x.rf++(zf x.co++zf x.dt))),(zf x.rm++(seg 32 (fun i=>u8 (x.regs i))++(seg 6 (fun i=>u8 (x.mem i))++S))),by simp only [Qr,QM,lap,zh],fun r=>by simp only [exC,KN,Qk,QS]⟩
theorem znm:∃ A Z,A.length=246/\∀ r,exC { x with rm:=r } q c++S=A++(zf r++Z) :=
 ⟨.slice q x.ev.length c::(zf x.po++(zf x.rf++(zf x.co++(zf x.dt++zf x.ct)))),(seg 32 (fun i=>u8 (x.regs i))++(seg 6 (fun i=>u8 (x.mem i))++S)),by simp only [Qr,QM,lap,zh],fun r=>by simp only [exC,KN,Qk,QS]⟩
theorem znn:∃ A Z,A.length=295/\∀ f,exC { x with regs:=f } q c++S=A++(seg 32 (fun i=>u8 (f i))++Z) :=
 ⟨.slice q x.ev.length c::(zf x.po++(zf x.rf++(zf x.co++(zf x.dt++(zf x.ct++zf x.rm))))),(seg 6 (fun i=>u8 (x.mem i))++S),by simp only [Qr,lap,zh],fun f=>by simp only [exC,KN,Qk,QS]⟩
theorem zp8:∃ A Z,A.length=327/\∀ f,exC { x with mem:=f } q c++S=A++(seg 6 (fun i=>u8 (f i))++Z) :=
 ⟨.slice q x.ev.length c::(zf x.po++(zf x.rf++(zf x.co++(zf x.dt++(zf x.ct++(zf x.rm++seg 32 (fun i=>u8 (x.regs i)))))))),S,by simp only [Qr,lap,zh,zE],fun f=>by simp only [exC,KN,Qk,QS]⟩
theorem zsR (l:List Ev) (q':OA) (c':Nat):(exC x q c++S).set 0 (.slice q' l.length c')=exC { x with ev:=l } q' c'++S:=by
 unfold exC;rw [Qk,List.set_cons_zero,Qk]
theorem ztG:(exC x q c++S)[0]?=some (.slice q x.ev.length c):=rfl
end
theorem zgD {x:ExD} {q:OA} {c:Nat} {S:List Value} {i:Nat} {v:Value} (h:S[i]?=some v):(exC x q c++S)[333+i]?=some v:=by
 rw [jc (zC _ _ _)];exact h
theorem zjG {x:ExD} {q:OA} {c:Nat} {S:List Value} {i:Nat} {v:Value}:(exC x q c++S).set (333+i) v=exC x q c++S.set i v:=qH (zC _ _ _)
abbrev zaU:=List Nat×OA×Nat
abbrev slV (x:zaU):Value := .slice x.2.1 x.1.length x.2.2
def zec (l:List zaU):List Value:=l.map slV
theorem zfO:∀ l:List zaU,l.flatMap jk.enc=zec l
 | []=>rfl
 | a::l=>by
  show slV a::l.flatMap jk.enc=slV a::zec l;rw [zfO l]
abbrev RowLH (Z:Wd) (g:Nat) (l:List zaU):Prop:=Z.heap[g]?=some (.cells (zec l).toArray 62 (0,0))
theorem RowLH.sl {Z:Wd} {g:Nat} {l:List zaU} (h:RowLH Z g l):SlR jk Z (some ⟨g,0,none⟩) l :=
 SlR.of_cells (hlt h) (by rw [zfO];exact za h)
theorem RowLH.own {Z:Wd} {g B:Nat} {l:List zaU} (h:RowLH Z g l) (hB:B<=g) (hm:l.length<=maxLen):OwnS jk 62 B Z (some ⟨g,0,none⟩) l.length l:=by
 unfold OwnS World.ownsRow;have hz:(zec l).length=l.length:=by unfold zec;rw [QL]
 refine⟨by rw [qE],.inr ⟨g,l.length,(zec l).toArray,rfl,hB,h,UV _,hm,?_,?_⟩⟩
 ·show (zec l).length=l.length*1;rw [hz,UW]
 ·show (zec l).take (l.length*1)=_;rw [zfO,JF (by rw [hz,UW];exact UV _)]
structure Rows (B:Nat) (Z:Wd) (W:List zaU):Prop where
 own:∀ x∈W,OwnS zA 3 B Z x.2.1 x.2.2 x.1
 dis:∀ (i j:Nat) (x y:zaU),W[i]?=some x->W[j]?=some y->i≠j->∀ a b,x.2.1=some a->y.2.1=some b->a.block≠b.block
theorem Rows.same {B:Nat} {Z Y:Wd} {W:List zaU} (h:Rows B Z W) (hs:∀ x∈W,∀ a,x.2.1=some a->Y.heap[a.block]?=Z.heap[a.block]?):Rows B Y W :=
 ⟨fun x hx=>(h.own x hx).same (hs x hx),h.dis⟩
theorem Rows.nils (B:Nat) (Z:Wd) (n:Nat):Rows B Z (List.replicate n ([],none,0)):=by
 refine⟨fun x hx=>?_,fun i j x y hx hy _ a b ha _=>?_⟩
 ·rw [Ju hx];exact OwnS.nil
 ·have:=JY hx;rw [Ju this] at ha
  cases ha
theorem Rows.set {B:Nat} {Z Y:Wd} {W:List zaU} {i:Nat} {x y:zaU} (h:Rows B Z W) (hi:W[i]?=some x) (ho:OwnS zA 3 B Y y.2.1 y.2.2 y.1) (hg:Z.grownBy Y (x.2.1.map Addr.block)) (hat:∀ a,y.2.1=some a->x.2.1=some a\/Z.heap.size<=a.block):Rows B Y (W.set i y):=by
 obtain⟨hil,hxi⟩:=Js.1 hi;have ne:∀ (j:Nat) (z:zaU),W[j]?=some z->i≠j->∀ b,z.2.1=some b->Y.heap[b.block]?=Z.heap[b.block]?:=fun j z hj hne b hb=>by
  refine hg.block _ (zx (h.own z (JY hj)) hb).2.1 fun e=>?_
  cases hx1:x.2.1 with
  | none=>rw [hx1] at e;cases e
  | some a =>
   rw [hx1] at e;simp only [Uc,KY] at e;exact h.dis i j x z hi hj hne a b hx1 hb e.symm
 have inv:∀ (j:Nat) (z:zaU),(W.set i y)[j]?=some z->(i=j/\z=y)\/(i≠j/\W[j]?=some z):=fun j z hj=>by
  by_cases e:i=j
  ·subst e;rw [JD hil] at hj;exact .inl ⟨rfl,(Ud hj).symm⟩
  ·rw [JU e] at hj;exact .inr ⟨e,hj⟩
 refine⟨fun z hz=>?_,fun j k u v hu hv hjk a b ha hb=>?_⟩
 ·obtain⟨j,hj⟩:=List.mem_iff_getElem?.1 hz;rcases inv j z hj with ⟨_,rfl⟩ | ⟨hne,hj⟩
  ·exact ho
  ·exact (h.own z (JY hj)).same (ne j z hj hne)
 ·rcases inv j u hu with ⟨e1,rfl⟩ | ⟨n1,hu'⟩ <;> rcases inv k v hv with ⟨e2,rfl⟩ | ⟨n2,hv'⟩
  ·omega
  ·rcases hat a ha with h1 | h1
   ·exact h.dis i k x v hi hv' n2 a b h1 hb
   ·have:=(zx (h.own v (JY hv')) hb).2.1;omega
  ·rcases hat b hb with h1 | h1
   ·exact h.dis j i u x hu' hi (fun e=>n1 e.symm) a b ha h1
   ·have:=(zx (h.own u (JY hu')) ha).2.1;omega
  ·exact h.dis j k u v hu' hv' hjk a b ha hb
end Go.Proofs.YtkpaomeeknegpaaGreatDoor
namespace Go.Vc
open Go.RowKit
def DrawA (S:Sig) (ops:Array Oper) (E:Env) (w:Wd) (K:Env->Wd->Prop) (QP:List PanicEntry->Wd->Prop):Prop :=
 ∃ (X:List Nat) (T:OT),(zll (zc5 S.τ X ops) ops ops.size (Array.replicate ops.size false) T&&ops.all (fun o=>jU o.op))=true/\zhk S ops.toList X QP T E w.drew K
inductive Mn where
 | m (m:Mk)
 | s (a b:Mn)
 | c (a b:Mn)
 | d (a b:Mn)
 | t
 | i
section
variable {S:Sig}
def zlk (rec_:Array Bool->OT->Bool) (ind:Nat->Nat->Bool) (ops:Array Oper) (listed:Array Bool) (T:OT):Bool :=
 !(Region.ready .any ops listed).isEmpty&&(Region.ready .any ops listed).all fun i =>
   (OT.firsts ind i T).any fun T'=>rec_ (listed.setIfInBounds i true) T'
def zgr (ind:Nat->Nat->Bool) (ops:Array Oper):Nat->Array Bool->OT->Bool
 | 0,listed,T=>(Region.ready .any ops listed).isEmpty&&(match T with | .nil=>true | _=>false)
 | m+1,listed,.op k T'=>(match (Region.ready .any ops listed).contains k&&zfd ind ops k listed with
  | true=>zgr ind ops m (listed.setIfInBounds k true) T'
  | false=>zlk (zgr ind ops m) ind ops listed (.op k T'))
 | m+1,listed,.nil=>zlk (zgr ind ops m) ind ops listed .nil
 | m+1,listed,.alt x y=>zlk (zgr ind ops m) ind ops listed (.alt x y)
section
variable {ind:Nat->Nat->Bool} {ops:Array Oper}
theorem zbi {rec_:Array Bool->OT->Bool} {L:Array Bool} {T:OT} (h:zlk rec_ ind ops L T=true):(Region.ready .any ops L).isEmpty=false/\∀ i∈Region.ready .any ops L,∃ T',T'∈OT.firsts ind i T/\rec_ (L.setIfInBounds i true) T'=true:=by
 simp only [zlk,bAT,KJ,Qi,Qj] at h;exact⟨h.1,fun i hi=>h.2 i hi⟩
theorem zoz:∀ (m:Nat) (L:Array Bool) (T:OT),zeJ ops L->zgr ind ops (m+1) L T=true ->
  (Region.ready .any ops L).isEmpty=false/\∀ i∈Region.ready .any ops L,∃ T',T'∈OT.firsts ind i T/\zgr ind ops m (L.setIfInBounds i true) T'=true:=by
 intro m
 induction m with
 | zero =>
  intro L T hc h
  cases T with
  | nil=>exact zbi h
  | alt x y=>exact zbi h
  | op k T' =>
   simp only [zgr] at h
   split at h
   ·rename_i hf;simp only [bAT,JT,dE] at hf;refine⟨Jt.2 (KB hf.1),fun i hi=>?_⟩;by_cases e:i=k
    ·subst e;exact⟨T',by simp [OT.firsts],h⟩
    ·have:=zbc hi e;simp only [bAT,Qq] at h;rw [h.1] at this;cases this
   ·exact zbi h
 | succ m ih =>
  intro L T hc h
  cases T with
  | nil=>exact zbi h
  | alt x y=>exact zbi h
  | op k T' =>
   unfold zgr at h
   split at h
   ·rename_i hf;simp only [bAT,JT,dE] at hf;refine⟨Jt.2 (KB hf.1),fun i hi=>?_⟩;by_cases e:i=k
    ·subst e;exact⟨T',by simp [OT.firsts],h⟩
    ·obtain⟨T'',h1,h2⟩:=(ih _ T' (zda hc hf.1) h).2 i (zbc hi e);refine⟨.op k T'',?_,?_⟩
     ·have:¬ k=i:=fun e2=>e e2.symm;rw [OT.firsts,Gm this,Gn (zk9 hc hf.2 hf.1 hi e)];exact Kl h1
     ·have hk2:k∈Region.ready .any ops (L.setIfInBounds i true):=zbc hf.1 (fun e2=>e e2.symm);have hb:((Region.ready .any ops (L.setIfInBounds i true)).contains k&&zfd ind ops k (L.setIfInBounds i true))=true:=by
       simp only [bAT,JT,dE];exact⟨hk2,zhO hf.2⟩
      unfold zgr;rw [hb];rw [zki];exact h2
   ·exact zbi h
theorem zfY:∀ (m:Nat) (L:Array Bool) (T:OT),zeJ ops L->zgr ind ops m L T=true->zll ind ops m L T=true
 | 0,L,T,_,h=>h
 | m+1,L,T,hc,h=>by
  obtain⟨h1,h2⟩:=zoz m L T hc h;simp only [zll,bAT,KJ,Qi,Qj];refine⟨h1,fun i hi=>?_⟩;obtain⟨T',h3,h4⟩:=h2 i hi;exact⟨T',h3,zfY m _ T' (zda hc hi) h4⟩
end
theorem DrawA.treeR {S:Sig} {ops:Array Oper} {E:Env} {w:Wd} {K:Env->Wd->Prop} {QP:List PanicEntry->Wd->Prop} (X:List Nat) (T:OT)
  (h:(zgr (zc5 S.τ X ops) ops ops.size (Array.replicate ops.size false) T&&ops.all (fun o=>jU o.op))=true) (k:zhk S ops.toList X QP T E w.drew K):DrawA S ops E w K QP :=
 ⟨X,T,by
  simp only [bAT] at h ⊢;refine⟨zfY _ _ _ (fun j o hj=>?_) h.1,h.2⟩;by_cases hl:j<ops.size <;> simp [hl] at hj,k⟩
theorem DrawE.treeR {S:Sig} {ops:Array Oper} {E:Env} {w:Wd} {K:Env->Wd->Prop} {QP:List PanicEntry->Wd->Prop} (X:List Nat) (T:OT)
  (h:(zgr (zc5 S.τ X ops) ops ops.size (Array.replicate ops.size false) T&&ops.all (fun o=>jU o.op))=true) (k:zhk S ops.toList X QP T E w.drew K):DrawE S ops E w K QP :=
 .inr (.inr ⟨X,T,by
  simp only [bAT] at h ⊢;refine⟨zfY _ _ _ (fun j o hj=>?_) h.1,h.2⟩;by_cases hl:j<ops.size <;> simp [hl] at hj,k⟩)
end
end Go.Vc
namespace Go.Proofs.YtkpaomeeknegpaaGreatDoor
open Go.Vc Go.RowKit Go.Sei
abbrev zbk (X:Wd) (b:Nat) (x:ExD) (q:OA) (c:Nat) (S:List Value):Prop:=X.heap[b]?=some (.cells (exC x q c++S).toArray 95 (0,0))
abbrev z8:Value := .slice none 0 0
theorem zc3 {X:Wd} {b:Nat} {x:ExD} {q:OA} {c:Nat} {S:List Value} (h:zbk X b x q c S):X.cell? ⟨b,0+0,none⟩=some (.slice q x.ev.length c):=zc (za h) (ztG x q c S)
theorem zau {X:Wd} {b:Nat} {x:ExD} {q:OA} {c:Nat} {S:List Value} (h:zbk X b x q c S) {i:Nat} {v:Value} (hi:S[i]?=some v):X.cell? ⟨b,333+i,none⟩=some v:=by
 have:=zc (za h) (zgD (x:=x) (q:=q) (c:=c) hi);rw [UQ] at this;exact this
theorem zqc {w Z:Wd} {q:OA} {ev:List Ev} {b:Nat} (hl:SlR evE w q ev) (hqb:∀ a,q=some a->a.block≠b) (g:w.grownBy Z (some b)):SlR evE Z q ev:=by
 rcases hl with h | ⟨b',o,h1,h2,h3⟩
 ·exact .inl h
 ·have:=hqb _ h1;exact .inr ⟨b',o,h1,nL h2 g.size,fun i hi=>jy (g.block b' h2 (by simpa using this)) (h3 i hi)⟩
theorem zat (p:OA) (n c:Nat):(Value.slice p n c).ownBlock=p.map Addr.block:=by cases p <;> rfl
theorem zhg {α:Type} {E:Enc α} {T B cap:Nat} {w:Wd} {p:OA} {l:List α} (h:OwnS E T B w p cap l) {k T':Nat} {cur:Array Value} {fr:Nat×Nat} (hk:w.heap[k]?=some (.cells cur T' fr)) (hT:T'≠T):some k≠p.map Addr.block:=fun e=>by
 cases hp:p with
 | none=>rw [hp] at e;cases e
 | some a =>
  rw [hp] at e;simp only [Uc,KY] at e;obtain⟨_,_,cur',h'⟩:=zx h hp;rw [<- e,hk] at h';simp at h';exact hT h'.2.1
theorem SatR.mono {α:Type} {r:Result α} {K K':α->Wd->Prop} (h:SatR r K) (k:∀ v w,K v w->K' v w):SatR r K':=by
 obtain⟨v,w',e,h⟩:=h;exact⟨v,w',e,k v w' h⟩
section
variable {α β:Type} {E:Enc α} {E':Enc β} {T T' B B' c c':Nat} {A C:Wd} {p q:OA} {l:List α} {l':List β}
theorem zdt (h:OwnS E T B A q c l) (g:A.grownBy C (p.map Addr.block)) (hne:∀ a b',p=some a->q=some b'->a.block≠b'.block):OwnS E T B C q c l :=
 h.same fun b' hb'=>g.block _ (zx h hb').2.1 fun e=>by
  cases hp:p with
  | none=>rw [hp] at e;cases e
  | some a =>
   rw [hp] at e;simp only [Uc,KY] at e;exact hne a b' hp hb' e.symm
theorem zas (h:OwnS E T B A q c l) (hp:OwnS E' T' B' A p c' l') (hT:T≠T') (g:A.grownBy C (p.map Addr.block)):OwnS E T B C q c l :=
 zdt h g fun a b' ha hb e=>by
  obtain⟨_,_,c1,h1⟩:=zx h hb;obtain⟨_,_,c2,h2⟩:=zx hp ha;rw [e,h1] at h2;simp at h2;exact hT h2.2
theorem qz {b:Nat} {cur:Array Value} {fr:Nat×Nat} (h:OwnS E T B A q c l) (hb:A.heap[b]?=some (.cells cur T' fr)) (hT:T≠T') (g:A.grownBy C (some b)):OwnS E T B C q c l :=
 h.same fun b' hb'=>g.block _ (zx h hb').2.1 fun e=>by
  obtain⟨_,_,c1,h1⟩:=zx h hb';simp only [KY] at e;rw [e,hb] at h1;simp at h1;exact hT h1.2.1.symm
theorem qy {b:Nat} {cur:Array Value} {fr:Nat×Nat} (hb:A.heap[b]?=some (.cells cur T' fr)) (h:OwnS E T B A q c l) (hT:T'≠T) (g:A.grownBy C (q.map Addr.block)):C.heap[b]?=some (.cells cur T' fr) :=
 (g.block b (hlt hb) (zhg h hb hT)).trans hb
theorem qS {n:Nat} (hp:OwnS E T B A p c l) (hn:n<=A.heap.size) (hB:n<=B) (g:A.grownBy C (p.map Addr.block)):Below n A C:=by
 refine⟨g.os,g.tape,g.output,g.size,fun j hj=>g.block j (by omega) fun e=>?_⟩
 cases h:p with
 | none=>rw [h] at e;cases e
 | some a =>
  rw [h] at e;simp only [Uc,KY] at e;have:=(zx hp h).1;omega
end
theorem zmx {B c k:Nat} {V1:Wd} {p:OA} {l:List Nat} {a:Addr} (ho:OwnS zA 3 B V1 p c l) (ha:zK V1 a ([k].flatMap zA.enc)) (hB:B<=V1.heap.size) (hl:l.length<=100000) {K:Value->Wd->Prop}
  (h:∀ p' c' w',OwnS zA 3 B w' p' c' (l++[k])->V1.grownBy w' (Value.slice p l.length c).ownBlock->(∀ a,p'=some a->p=some a\/a.block=V1.heap.size)->K (.slice p' (l++[k]).length c') w') :
  SatR ((Builtin.append_ #[62,62] 62 #[.slice p l.length c,.slice (some a) 1 1]).run PG V1) K :=
 jJ (E:=zA) (T:=3) (B:=B) (l:=l) (news:=[k]) (cap:=c) (m:=1) Tryz.underlying62 k3 rfl rfl rfl ho rfl ha hB (by omega) (by show (l.length+1)*8<=_;omega) fun p' c' w' a1 a2 _ a4=>h p' c' w' a1 a2 a4
theorem zve {B c:Nat} {V1:Wd} {p:OA} {l:List zaU} {y:zaU} {a:Addr} (ho:OwnS jk 62 B V1 p c l) (ha:zK V1 a ([y].flatMap jk.enc)) (hB:B<=V1.heap.size) (hl:l.length<=100000) {K:Value->Wd->Prop}
  (h:∀ p' c' w',OwnS jk 62 B w' p' c' (l++[y])->V1.grownBy w' (Value.slice p l.length c).ownBlock->(∀ a,p'=some a->p=some a\/a.block=V1.heap.size)->K (.slice p' (l++[y]).length c') w') :
  SatR ((Builtin.append_ #[93,93] 93 #[.slice p l.length c,.slice (some a) 1 1]).run PG V1) K :=
 jJ (E:=jk) (T:=62) (B:=B) (l:=l) (news:=[y]) (cap:=c) (m:=1) Tryz.underlying93 k62 rfl rfl rfl ho rfl ha hB (by omega) (by show (l.length+1)*24<=_;omega) fun p' c' w' a1 a2 _ a4=>h p' c' w' a1 a2 a4
section
variable {b:Nat} {x:ExD} {q:OA} {c locs:Nat} {w:Wd}
theorem zoE (hm:zbk w b x q c [z8,z8,z8]) (hl:SlR evE w q x.ev) (hqb:∀ a,q=some a->a.block≠b) (hn:x.ev.length<=48) (hlo:locs<=100) (hv:∀ e∈x.ev,e.k=1\/e.k=2->e.l.toNat<locs) :
  Calls PG 110 #[At0 b,i64 locs] w fun e w'=>e = .returned (.tuple #[])/\(∃ (p1 p2 p3:OA) (c1 c2 c3:Nat) (xs ys:List zaU),
   zbk w' b x q c [.slice p1 (zaj x locs).rs.length c1,.slice p2 xs.length c2,.slice p3 ys.length c3]/\OwnS zA 3 w.heap.size w' p1 c1 ((zaj x locs).rs.map (·.1))/\xs.map (·.1)=(zaj x locs).rs.map (·.2)/\OwnS jk 62 w.heap.size w' p2 c2 xs/\(∀ y∈xs,OwnS zA 3 w.heap.size w' y.2.1 y.2.2 y.1) /\
   ys.map (·.1)=(zaj x locs).wr/\OwnS jk 62 w.heap.size w' p3 c3 ys/\∀ y∈ys,OwnS zA 3 w.heap.size w' y.2.1 y.2.2 y.1)/\w.grownBy w' (some b):=by
 refine qA 114 [At0 b,i64 locs] (.c .p (.c .p .p)) Tryz.func110 ?_;obtain⟨B,hB⟩:=nm (w.heap.size);have hbw:=hlt hm;obtain⟨W0,hW0⟩:∃ W0:List zaU,W0=List.replicate locs ([],none,0):=⟨_,rfl⟩;have hW0l:W0.length=locs:=by rw [hW0,JM]
 refine⟨Unit,fun _=>⟨[(0,At0 b)],[]⟩,fun _ X=>zbk X b x q c [z8,z8,.slice (some ⟨B,0,none⟩) locs locs]/\RowLH X B W0/\w.grownBy X (some b)/\B<X.heap.size,?_,?_⟩
 ·refine ziO Tryz.underlying93 k62 rfl rfl (by decide) locs (by show 24*_<=_;omega) (by omega) fun X fX hbX sX=>?_;have ez:∀ n,zcg [Value.slice none 0 0] n=zec (List.replicate n ([],none,0)):=fun n=>by
   induction n with
   | zero=>rfl
   | succ n ih =>
    show Value.slice none 0 0::zcg [Value.slice none 0 0] n=slV ([],none,0)::zec (List.replicate n ([],none,0));rw [<- ih];rfl
  have fX:X.heap[w.heap.size]?=some (.cells (zcg [Value.slice none 0 0] locs).toArray 62 (0,0)):=fX;rw [ez,<- hW0,<- hB] at fX;have hmX:=(hbX.block b hbw).trans hm;refine zm k93 hmX (o:=0+335) (v := .slice (some ⟨w.heap.size,0,none⟩) locs locs) rfl rfl (by rw [lap,zC];decide) rfl fun Y fY gY sY=>?_;rw [show 0+335=333+2 from rfl,zjG] at fY;exact⟨(),(cvE rfl rfl),by rw [hB];exact fY,(gY.block B (hlt fX) (by simp;omega)).trans fX,zd (zi hbX) gY,by rw [sY,sX,hB];omega⟩
 rintro _ X ⟨hmX,fX,gX,sX⟩;refine⟨List zaU,fun W=>⟨[(0,At0 b)],[]⟩,fun W Z=>zbk Z b x q c [z8,z8,.slice (some ⟨B,0,none⟩) locs locs]/\RowLH Z B W/\w.grownBy Z (some b)/\W.length=locs/\W.map (·.1)=(zaj x locs).wr/\Rows B Z W/\∀ y∈W,y.1.length<=48/\∀ a∈y.1,a<x.ev.length,?_,?_⟩
 ·refine⟨_,zc3 hmX,?_⟩;refine⟨Nat×List zaU,fun s=>⟨[(0,At0 b),(20,.slice q x.ev.length c),(21,i64 x.ev.length),(22,i64 (s.1:Nat))],[]⟩,
   fun s Z=>s.1<=x.ev.length/\zbk Z b x q c [z8,z8,.slice (some ⟨B,0,none⟩) locs locs]/\RowLH Z B s.2/\w.grownBy Z (some b)/\s.2.length=locs/\zib s.1 (x.ev.drop s.1) (s.2.map (·.1))=(zaj x locs).wr/\Rows B Z s.2/\(∀ y∈s.2,y.1.length<=s.1/\∀ a∈y.1,a<x.ev.length),fun s=>x.ev.length-s.1,(0,W0),
   (cvE rfl rfl),⟨UY _,hmX,fX,gX,hW0l,by rw [hW0,List.map_replicate];rfl,by rw [hW0];exact Rows.nils _ _ _,fun y hy=>by rw [hW0] at hy;rw [Ju hy];exact⟨UY _,fun a ha=>by cases ha⟩⟩,?_⟩
  clear hmX fX gX sX;rintro⟨k,W⟩ Z ⟨hk,hmZ,fZ,gZ,hWl,hacc,hR,hL⟩;dsimp only at hk fZ hWl hacc hR hL ⊢;refine biE (fun hc=>?_) fun hc=>?_
  ·have hc:(k:Int)<(x.ev.length:Int):=dT hc;have hkl:k<x.ev.length:=by omega
   obtain⟨e,he⟩:∃ e,x.ev[k]=e:=⟨_,rfl⟩;have hem:e∈x.ev:=by rw [<- he];exact gM hkl
   rw [<- JE hkl,he] at hacc;have hacc:zib (k+1) (x.ev.drop (k+1)) (if e.k=2 then (W.map (·.1)).set e.l.toNat ((W.map (·.1)).getD e.l.toNat []++[k]) else W.map (·.1))=(zaj x locs).wr:=hacc;have hlZ:=zqc hl hqb gZ;obtain⟨bp,op,hqe,hlp,hat⟩:=hlZ.at hkl;subst hqe;refine⟨k,rfl,hkl,evE.enc e,rfl,by rw [<- he];exact hat k hkl,hlp,?_⟩;refine zq (X:=Z) (v := .agg (evE.enc e).toArray) k49 rfl rfl (Qi.2 fun u hu=>evE.one e u hu) fun Y hbY fY sY=>?_;have gY:=zd gZ (zi (row:=some b) hbY);have hmY:=zb hbY hmZ;have fBY:=zb hbY fZ;have hRY:Rows B Y W:=hR.same fun y hy a ha=>hbY.block _ (zx (hR.own y hy) ha).2.1;have fY:Y.heap[Z.heap.size]?=some (.cells (evE.enc e).toArray 49 (0,0)):=fY;refine⟨u8 e.k,zc (za fY) (i:=1) rfl,biE (fun h=>?_) fun h=>?_⟩
   ·have h:e.k=2:=qu.1 (dT h);rw [Gn h] at hacc;have hll:=hv e hem (.inr h);obtain⟨l,hle⟩:∃ l,e.l.toNat=l:=⟨_,rfl⟩;rw [hle] at hacc hll;have hlW:l<W.length:=(by omega);obtain⟨y,hy⟩:∃ y,W[l]?=some y:=⟨_,gE hlW⟩;have hym:y∈W:=JY hy;have hgd:(W.map (·.1)).getD l []=y.1:=(by rw [gDe,KT,hy];rfl);rw [hgd] at hacc;have hyo:=hRY.own y hym;have hylen:=(hL y hym).1;have hrl:(zec W)[l]?=some (slV y):=(by unfold zec;rw [KT,hy];rfl);have hd:Bw Y Y.drew:=(Ga _ Y).drew;have hba:Below Y.drew.heap.size Y.drew (Y.drew.alloc (.cells (zA.enc k).toArray 3)):=zba _ _;have sa:(Y.drew.alloc (.cells (zA.enc k).toArray 3)).heap.size=Y.heap.size+1:=wz _ _;have nB:=zhg hyo fBY (by decide);have nb:=zhg hyo hmY (by decide);have fin:∀ p2 c2 V,OwnS zA 3 B V p2 c2 (y.1++[k])->(Y.drew.alloc (.cells (zA.enc k).toArray 3)).grownBy V (Value.slice y.2.1 y.1.length y.2.2).ownBlock->(∀ a,p2=some a->y.2.1=some a\/a.block=(Y.drew.alloc (.cells (zA.enc k).toArray 3)).heap.size) ->
      (zbk V b x (some ⟨bp,op,none⟩) c [z8,z8,.slice (some ⟨B,0,none⟩) locs locs]/\V.heap[Z.heap.size]?=some (.cells (evE.enc e).toArray 49 (0,0))) /\
      SatR ((storeVar 62 ⟨B,0+l*1,none⟩ (slV (y.1++[k],p2,c2))).run PG V) fun _ S=>zbk S b x (some ⟨bp,op,none⟩) c [z8,z8,.slice (some ⟨B,0,none⟩) locs locs]/\RowLH S B (W.set l (y.1++[k],p2,c2))/\w.grownBy S (some b)/\(W.set l (y.1++[k],p2,c2)).length=locs/\zib (k+1) (x.ev.drop (k+1)) ((W.set l (y.1++[k],p2,c2)).map (·.1))=(zaj x locs).wr/\Rows B S (W.set l (y.1++[k],p2,c2))/\∀ z∈W.set l (y.1++[k],p2,c2),z.1.length<=k+1/\∀ a∈z.1,a<x.ev.length:=by
     intro p2 c2 V oV gV hat2;obtain⟨U,hU⟩:=nm (Y.drew.alloc (.cells (zA.enc k).toArray 3));rw [<- hU] at gV hba sa hat2;have hbYU:Bw Y U:=hd.trans hba;rw [zat] at gV;have gYV:Y.grownBy V (y.2.1.map Addr.block):=zd (zi hbYU) gV;have fBV:RowLH V B W:=(gYV.block B (hlt fBY) nB).trans fBY;have hmV:=(gYV.block b (hlt hmY) nb).trans hmY;have nE:=zhg hyo fY (by decide);refine⟨⟨hmV,(gYV.block _ (hlt fY) nE).trans fY⟩,zm k62 fBV (o:=0+l*1) (v:=slV (y.1++[k],p2,c2)) rfl rfl (by unfold zec;rw [QL];omega) rfl fun S fS gS sS=>?_⟩;have fS2:RowLH S B (W.set l (y.1++[k],p2,c2)):=by
      rw [UW,UQ] at fS;refine fS.trans ?_;unfold zec;rw [UH]
     have hRV:Rows B V (W.set l (y.1++[k],p2,c2)):=hRY.set (y:=(y.1++[k],p2,c2)) hy oV gYV fun a ha=>(hat2 a ha).imp id fun h=>by omega
     have hRS:Rows B S (W.set l (y.1++[k],p2,c2)):=hRV.same fun z hz a ha=>gS.block _ (zx (hRV.own z hz) ha).2.1 fun e=>by
      have h1:=zhg (hRV.own z hz) fBV (by decide);rw [ha] at h1;exact h1 e.symm
     have gyb:w.grownBy S (some b):=by
      have hBb:B≠b:=(by omega);have e1:Below B Y S:=by
       refine Below.trans ⟨gYV.os,gYV.tape,gYV.output,gYV.size,fun j hj=>gYV.block j (by have:=hlt fBY;omega) fun e=>?_⟩ (zk gS (by have:=hlt fBV;omega) (UV _))
       cases hp:y.2.1 with
       | none=>rw [hp] at e;cases e
       | some a =>
        rw [hp] at e;simp only [Uc,KY] at e;have:=(zx hyo hp).1;omega
      rw [hB] at e1;exact jw gY e1
     refine⟨(gS.block b (hlt hmV) (by simp;omega)).trans hmV,fS2,gyb,by rw [QN];exact hWl,?_,hRS,fun z hz=>?_⟩
     ·rw [UH];exact hacc
     ·rcases List.mem_or_eq_of_mem_set hz with h | h
      ·exact⟨by have:=(hL z h).1;omega,(hL z h).2⟩
      ·rw [h];refine⟨by simp only [lap,Qr,QM];omega,fun a ha=>?_⟩;rcases QQ.1 ha with ha | ha
       ·exact (hL y hym).2 a ha
       ·rw [KA.1 ha];exact hkl
    refine DrawE.treeR [16,18] (.op 0 (.op 1 (.op 2 (.op 4 (.op 6 (.op 7 (.op 8 (.op 9 (.op 10 (.op 11 (.op 12 (.op 13 (.op 14 (.alt (.op 15 (.alt (.op 16 (.alt (.op 3 (.op 5 (.op 17 (.op 18 (.nil))))) (.op 5 (.op 3 (.op 17 (.op 18 (.nil))))))) (.alt (.op 3 (.alt (.op 16 (.op 5 (.op 17 (.op 18 (.nil))))) (.op 5 (.op 16 (.op 17 (.op 18 (.nil))))))) (.op 5 (.alt (.op 16 (.op 3 (.op 17 (.op 18 (.nil))))) (.op 3 (.op 16 (.op 17 (.op 18 (.nil)))))))))) (.alt (.op 3 (.alt (.op 15 (.alt (.op 16 (.op 5 (.op 17 (.op 18 (.nil))))) (.op 5 (.op 16 (.op 17 (.op 18 (.nil))))))) (.op 5 (.op 15 (.op 16 (.op 17 (.op 18 (.nil)))))))) (.op 5 (.alt (.op 15 (.alt (.op 16 (.op 3 (.op 17 (.op 18 (.nil))))) (.op 3 (.op 16 (.op 17 (.op 18 (.nil))))))) (.op 3 (.op 15 (.op 16 (.op 17 (.op 18 (.nil))))))))))))))))))))))) (by kernel_rfl) ⟨_,zau (hdr hmY) (i:=2) rfl,u8 e.l,zc (za (hdr fY)) (i:=2) rfl,l,by rw [<- hle],hll,?_⟩;refine⟨slV y,by have:=zc (za (hdr fBY)) (i:=l*1) (v:=slV y) (by rw [UW];exact hrl);exact this,?_⟩;have hsz:x.ev.length-(k+1)<x.ev.length-k:=(by omega);have app:∀ {K:Value->Wd->Prop},(∀ p2 c2 V,((zbk V b x (some ⟨bp,op,none⟩) c [z8,z8,.slice (some ⟨B,0,none⟩) locs locs]/\V.heap[Z.heap.size]?=some (.cells (evE.enc e).toArray 49 (0,0))) /\
      SatR ((storeVar 62 ⟨B,0+l*1,none⟩ (slV (y.1++[k],p2,c2))).run PG V) fun _ S=>zbk S b x (some ⟨bp,op,none⟩) c [z8,z8,.slice (some ⟨B,0,none⟩) locs locs]/\RowLH S B (W.set l (y.1++[k],p2,c2))/\w.grownBy S (some b)/\(W.set l (y.1++[k],p2,c2)).length=locs/\zib (k+1) (x.ev.drop (k+1)) ((W.set l (y.1++[k],p2,c2)).map (·.1))=(zaj x locs).wr/\Rows B S (W.set l (y.1++[k],p2,c2))/\∀ z∈W.set l (y.1++[k],p2,c2),z.1.length<=k+1/\∀ a∈z.1,a<x.ev.length)->K (slV (y.1++[k],p2,c2)) V) ->
      SatR ((Builtin.append_ #[62,62] 62 #[slV y,.slice (some ⟨Y.drew.heap.size,0,none⟩) 1 1]).run PG (Y.drew.alloc (.cells (zA.enc k).toArray 3))) K:=fun {K} h =>
     jJ (E:=zA) (T:=3) (B:=B) (l:=y.1) (news:=[k]) (cap:=y.2.2) (m:=1) Tryz.underlying62 k3 rfl rfl rfl (hyo.below (hd.trans hba)) rfl (qN zA k) (by have:=gY.size;omega) (by omega) (by show (y.1.length+1)*8<=_;omega) fun p2 c2 V oV gV hbV hat2=>h p2 c2 V (fin p2 c2 V oV gV hat2)
    have hmA:=qM (.cells (zA.enc k).toArray 3 (0,0)) (hdr hmY);have fEA:=qM (.cells (zA.enc k).toArray 3 (0,0)) (hdr fY);refine Gf ?_ (Gf ?_ ?_)
    ·refine⟨⟨by decide,by decide,rfl⟩,zA.enc k,rfl,hba,Gf ?_ (Gf ?_ ?_)⟩
     ·refine app fun p2 c2 V ⟨⟨hmV,fEV⟩,hst⟩=>Gf ?_ ?_
      ·refine⟨_,zau hmV (i:=2) rfl,u8 e.l,zc (za fEV) (i:=2) rfl,l,by rw [<- hle],hll,?_⟩;refine SatR.mono hst ?_;rintro _ S hS;exact nxI (by omega) ⟨(k+1,W.set l (y.1++[k],p2,c2)),(cvE rfl rfl),⟨hkl,hS⟩,hsz⟩
      ·refine⟨u8 e.l,zc (za fEV) (i:=2) rfl,_,zau hmV (i:=2) rfl,l,by rw [<- hle],hll,?_⟩;refine SatR.mono hst ?_;rintro _ S hS;exact nxI (by omega) ⟨(k+1,W.set l (y.1++[k],p2,c2)),(cvE rfl rfl),⟨hkl,hS⟩,hsz⟩
     ·refine⟨_,zau hmA (i:=2) rfl,Gf ?_ ?_⟩
      ·refine app fun p2 c2 V ⟨⟨hmV,fEV⟩,hst⟩=>⟨u8 e.l,zc (za fEV) (i:=2) rfl,l,by rw [<- hle],hll,?_⟩;refine SatR.mono hst ?_;rintro _ S hS;exact nxI (by omega) ⟨(k+1,W.set l (y.1++[k],p2,c2)),(cvE rfl rfl),⟨hkl,hS⟩,hsz⟩
      ·refine⟨u8 e.l,zc (za fEA) (i:=2) rfl,app fun p2 c2 V ⟨⟨hmV,fEV⟩,hst⟩=>⟨l,by rw [<- hle],hll,?_⟩⟩;refine SatR.mono hst ?_;rintro _ S hS;exact nxI (by omega) ⟨(k+1,W.set l (y.1++[k],p2,c2)),(cvE rfl rfl),⟨hkl,hS⟩,hsz⟩
     ·refine⟨u8 e.l,zc (za fEA) (i:=2) rfl,Gf ?_ ?_⟩
      ·refine app fun p2 c2 V ⟨⟨hmV,fEV⟩,hst⟩=>⟨_,zau hmV (i:=2) rfl,l,by rw [<- hle],hll,?_⟩;refine SatR.mono hst ?_;rintro _ S hS;exact nxI (by omega) ⟨(k+1,W.set l (y.1++[k],p2,c2)),(cvE rfl rfl),⟨hkl,hS⟩,hsz⟩
      ·refine⟨_,zau hmA (i:=2) rfl,app fun p2 c2 V ⟨⟨hmV,fEV⟩,hst⟩=>⟨l,by rw [<- hle],hll,?_⟩⟩;refine SatR.mono hst ?_;rintro _ S hS;exact nxI (by omega) ⟨(k+1,W.set l (y.1++[k],p2,c2)),(cvE rfl rfl),⟨hkl,hS⟩,hsz⟩
    ·refine⟨_,zau (hdr hmY) (i:=2) rfl,Gf ?_ ?_⟩
     ·refine⟨⟨by decide,by decide,rfl⟩,zA.enc k,rfl,hba,Gf ?_ ?_⟩
      ·refine app fun p2 c2 V ⟨⟨hmV,fEV⟩,hst⟩=>⟨u8 e.l,zc (za fEV) (i:=2) rfl,l,by rw [<- hle],hll,?_⟩;refine SatR.mono hst ?_;rintro _ S hS;exact nxI (by omega) ⟨(k+1,W.set l (y.1++[k],p2,c2)),(cvE rfl rfl),⟨hkl,hS⟩,hsz⟩
      ·refine⟨u8 e.l,zc (za fEA) (i:=2) rfl,app fun p2 c2 V ⟨⟨hmV,fEV⟩,hst⟩=>⟨l,by rw [<- hle],hll,?_⟩⟩;refine SatR.mono hst ?_;rintro _ S hS;exact nxI (by omega) ⟨(k+1,W.set l (y.1++[k],p2,c2)),(cvE rfl rfl),⟨hkl,hS⟩,hsz⟩
     ·refine⟨u8 e.l,zc (za (hdr fY)) (i:=2) rfl,⟨by decide,by decide,rfl⟩,zA.enc k,rfl,hba,app fun p2 c2 V ⟨⟨hmV,fEV⟩,hst⟩=>⟨l,by rw [<- hle],hll,?_⟩⟩;refine SatR.mono hst ?_;rintro _ S hS;exact nxI (by omega) ⟨(k+1,W.set l (y.1++[k],p2,c2)),(cvE rfl rfl),⟨hkl,hS⟩,hsz⟩
    ·refine⟨u8 e.l,zc (za (hdr fY)) (i:=2) rfl,Gf ?_ ?_⟩
     ·refine⟨⟨by decide,by decide,rfl⟩,zA.enc k,rfl,hba,Gf ?_ ?_⟩
      ·refine app fun p2 c2 V ⟨⟨hmV,fEV⟩,hst⟩=>⟨_,zau hmV (i:=2) rfl,l,by rw [<- hle],hll,?_⟩;refine SatR.mono hst ?_;rintro _ S hS;exact nxI (by omega) ⟨(k+1,W.set l (y.1++[k],p2,c2)),(cvE rfl rfl),⟨hkl,hS⟩,hsz⟩
      ·refine⟨_,zau hmA (i:=2) rfl,app fun p2 c2 V ⟨⟨hmV,fEV⟩,hst⟩=>⟨l,by rw [<- hle],hll,?_⟩⟩;refine SatR.mono hst ?_;rintro _ S hS;exact nxI (by omega) ⟨(k+1,W.set l (y.1++[k],p2,c2)),(cvE rfl rfl),⟨hkl,hS⟩,hsz⟩
     ·refine⟨_,zau (hdr hmY) (i:=2) rfl,⟨by decide,by decide,rfl⟩,zA.enc k,rfl,hba,app fun p2 c2 V ⟨⟨hmV,fEV⟩,hst⟩=>⟨l,by rw [<- hle],hll,?_⟩⟩;refine SatR.mono hst ?_;rintro _ S hS;exact nxI (by omega) ⟨(k+1,W.set l (y.1++[k],p2,c2)),(cvE rfl rfl),⟨hkl,hS⟩,hsz⟩
   ·have h:¬ e.k=2:=fun e'=>dF h (by rw [e'];rfl);rw [Gm h] at hacc;exact nxI (by omega) ⟨(k+1,W),(cvE rfl rfl),⟨hkl,hmY,fBY,gY,hWl,hacc,hRY,fun y hy=>⟨by have:=(hL y hy).1;show _<=k+1;omega,(hL y hy).2⟩⟩,zdc (by omega)⟩
  ·have hc:¬ (k:Int)<(x.ev.length:Int):=dF hc;obtain rfl:k=x.ev.length:=by omega
   rw [Ql] at hacc;exact⟨W,(cvE rfl rfl),hmZ,fZ,gZ,hWl,hacc,hR,fun y hy=>⟨by have:=(hL y hy).1;omega,(hL y hy).2⟩⟩
 rintro W X ⟨hmX,fX,gX,hWl,hwr,hR,hWb⟩;refine⟨_,zc3 hmX,?_⟩;obtain⟨RS,hRS⟩:=nm ((zaj x locs).rs);have hRSg:RS=zbQ x.ev (W.map (·.1)) 0 x.ev:=by rw [hRS,hwr];rfl
 rw [<- hRS,<- hwr];have sX:B<X.heap.size:=hlt fX;refine⟨Nat×List (Nat×List Nat)×List zaU×(OA×Nat)×(OA×Nat),fun s=>⟨[(0,At0 b),(53,.slice q x.ev.length c),(54,i64 x.ev.length),(55,i64 (s.1:Nat))],[]⟩,
  fun s Z=>s.1<=x.ev.length/\RS=s.2.1++zbQ x.ev (W.map (·.1)) s.1 (x.ev.drop s.1)/\s.2.1.length<=s.1/\s.2.2.1.map (·.1)=s.2.1.map (·.2)/\zbk Z b x q c [.slice s.2.2.2.1.1 (s.2.1.map (·.1)).length s.2.2.2.1.2,.slice s.2.2.2.2.1 s.2.2.1.length s.2.2.2.2.2,.slice (some ⟨B,0,none⟩) locs locs]/\RowLH Z B W/\w.grownBy Z (some b)/\(∀ y∈W,OwnS zA 3 B Z y.2.1 y.2.2 y.1)/\(∀ y∈s.2.2.1,OwnS zA 3 B Z y.2.1 y.2.2 y.1) /\
   OwnS zA 3 B Z s.2.2.2.1.1 s.2.2.2.1.2 (s.2.1.map (·.1))/\OwnS jk 62 B Z s.2.2.2.2.1 s.2.2.2.2.2 s.2.2.1/\(∀ a,s.2.2.2.1.1=some a->∀ y,y∈s.2.2.1\/y∈W->∀ b',y.2.1=some b'->a.block≠b'.block)/\(∀ a,s.2.2.2.2.1=some a->a.block≠B),
  fun s=>x.ev.length-s.1,(0,[],[],(none,0),(none,0)),
  (cvE rfl rfl),⟨UY _,hRSg,UV _,rfl,hmX,fX,gX,hR.own,fun y hy=>(by cases hy),OwnS.nil,OwnS.nil,fun a ha=>(by cases ha),fun a ha=>(by cases ha)⟩,?_⟩
 clear hmX fX gX hR sX;rintro⟨k,dn,xs,⟨p1,c1⟩,⟨p2,c2⟩⟩ Z ⟨hk,hspec,hdl,hxs,hmZ,fZ,gZ,hWo,hxo,ho1,ho2,hd1,hd2⟩;dsimp only at hk hspec hdl hxs hmZ hxo ho1 ho2 hd1 hd2 ⊢;refine biE (fun hc=>?_) fun hc=>?_
 ·have hc:(k:Int)<(x.ev.length:Int):=dT hc;have hkl:k<x.ev.length:=by omega
  obtain⟨e,he⟩:∃ e,x.ev[k]=e:=⟨_,rfl⟩;have hem:e∈x.ev:=by rw [<- he];exact gM hkl
  rw [<- JE hkl,he] at hspec;have hlZ:=zqc hl hqb gZ;obtain⟨bp,op,hqe,hlp,hat⟩:=hlZ.at hkl;subst hqe;refine⟨k,rfl,hkl,evE.enc e,rfl,by rw [<- he];exact hat k hkl,hlp,?_⟩;refine zq (X:=Z) (v := .agg (evE.enc e).toArray) k49 rfl rfl (Qi.2 fun u hu=>evE.one e u hu) fun Y hbY fY sY=>?_;have gY:=zd gZ (zi (row:=some b) hbY);have hmY:=zb hbY hmZ;have fBY:=zb hbY fZ;have fY:Y.heap[Z.heap.size]?=some (.cells (evE.enc e).toArray 49 (0,0)):=fY;refine⟨u8 e.k,zc (za fY) (i:=1) rfl,biE (fun h=>?_) fun h=>?_⟩
  ·have h:¬ e.k=1:=fun e'=>by
    rw [e'] at h;exact Gp h (by decide)
   have hspec:RS=dn++(if e.k=1 then (k,((W.map (·.1)).getD e.l.toNat []).filter fun w=>decide ((x.ev.getD w ev0).v=e.v))::zbQ x.ev (W.map (·.1)) (k+1) (x.ev.drop (k+1)) else zbQ x.ev (W.map (·.1)) (k+1) (x.ev.drop (k+1))):=hspec;rw [Gm h] at hspec;exact nxI (by omega) ⟨(k+1,dn,xs,(p1,c1),(p2,c2)),(cvE rfl rfl),⟨hkl,hspec,by show dn.length<=k+1;omega,hxs,hmY,fBY,gY,fun y hy=>(hWo y hy).below hbY,fun y hy=>(hxo y hy).below hbY,ho1.below hbY,ho2.below hbY,hd1,hd2⟩,zdc (by omega)⟩
  ·have h1:decide ((e.k.toNat:Int)=1)=true:=by simpa using h
   have h:e.k=1:=qu.1 (dT h1);obtain⟨l,hle⟩:∃ l,e.l.toNat=l:=⟨_,rfl⟩;have hll:l<locs:=by rw [<- hle];exact hv e hem (.inl h)
   have hlW:l<W.length:=by omega
   obtain⟨y,hy⟩:∃ y,W[l]?=some y:=⟨_,gE hlW⟩;have hym:y∈W:=JY hy;have hgd:(W.map (·.1)).getD l []=y.1:=by rw [gDe,KT,hy];rfl
   obtain⟨P,hP⟩:∃ P:Nat->Bool,P=fun w=>decide ((x.ev.getD w ev0).v=e.v):=⟨_,rfl⟩;have hspec:RS=dn++(k,y.1.filter P)::zbQ x.ev (W.map (·.1)) (k+1) (x.ev.drop (k+1)):=by
    have hspec:RS=dn++(if e.k=1 then (k,((W.map (·.1)).getD e.l.toNat []).filter fun w=>decide ((x.ev.getD w ev0).v=e.v))::zbQ x.ev (W.map (·.1)) (k+1) (x.ev.drop (k+1)) else zbQ x.ev (W.map (·.1)) (k+1) (x.ev.drop (k+1))):=hspec;rw [Gn h,hle,hgd,<- hP] at hspec;exact hspec
   obtain⟨hy48,hyb⟩:=hWb y hym;have hyo:=(hWo y hym).below hbY;have hrl:(zec W)[l]?=some (slV y):=by unfold zec;rw [KT,hy];rfl
   have hd:Bw Y Y.drew:=(Ga _ Y).drew;refine DrawE.ord [] [0,1,2,3,4,5,6,7,8,9] (by kernel_rfl) ⟨_,zau (hdr hmY) (i:=2) rfl,u8 e.l,zc (za (hdr fY)) (i:=2) rfl,l,by rw [<- hle],hll,?_⟩;refine⟨slV y,by have:=zc (za (hdr fBY)) (i:=l*1) (v:=slV y) (by rw [UW];exact hrl);exact this,?_⟩;obtain⟨M,hM⟩:=nm (Y.heap.size);refine⟨Nat×List Nat×OA×Nat,fun s=>⟨[(0,At0 b),(6,i64 (k:Nat)),(7,At0 Z.heap.size),(8,.slice s.2.2.1 s.2.1.length s.2.2.2),(53,.slice (some ⟨bp,op,none⟩) x.ev.length c),(54,i64 x.ev.length),(55,i64 (k:Nat)),(70,slV y),(71,i64 y.1.length),(72,i64 (s.1:Nat))],[]⟩,
    fun s V=>s.1<=y.1.length/\s.2.1=(y.1.take s.1).filter P/\OwnS zA 3 M V s.2.2.1 s.2.2.2 s.2.1/\Below M Y V,fun s=>y.1.length-s.1,(0,[],none,0),
    (cvE rfl rfl),⟨UY _,rfl,OwnS.nil,by rw [hM];exact hd⟩,?_⟩
   rintro⟨i,fr,p3,c3⟩ V ⟨hi,hfr,hoV,hbV⟩;dsimp only at hi hfr hoV ⊢;have sV:=hbV.size;have hmV:=(hbV.block b (by have:=hlt hmY;omega)).trans hmY;have fEV:=(hbV.block Z.heap.size (by have:=hlt fY;omega)).trans fY;have fBV:=(hbV.block B (by have:=hlt fBY;omega)).trans fBY;have hbYV:Bw Y V:=by rw [hM] at hbV;exact hbV
   have hyoV:=hyo.below hbYV;have hfl:fr.length<=i:=by rw [hfr];exact UL (JL _ _) (by rw [Qt];exact Nat.min_le_left _ _)
   refine biE (fun hc=>?_) fun hc=>?_
   ·have hc:(i:Int)<(y.1.length:Int):=dT hc;have hil:i<y.1.length:=(by omega);have hyi:=hyb y.1[i] (gM hil);have hlV:=zqc hl hqb (jw gY (hbV.mono (by have:=gY.size;omega)));obtain⟨by_,oy,hye,hly,haty⟩:=hyoV.row.at hil;obtain⟨bq,oq,hqe,hlq,hatq⟩:=hlV.at hyi;simp only [KY,Us,Gh] at hqe;obtain⟨rfl,rfl⟩:=hqe;have htk:(y.1.take (i+1)).filter P=fr++(if P y.1[i] then [y.1[i]] else []):=by
     rw [tsg hil,Kv,hfr]
     cases hPi:P y.1[i] <;> simp [hPi]
    have hPv:P y.1[i]=decide (x.ev[y.1[i]].v=e.v):=by
     rw [hP];show decide ((x.ev.getD y.1[i] ev0).v=e.v)=_;rw [gDe,gE hyi];rfl
    rw [show slV y = .slice (some ⟨by_,oy,none⟩) y.1.length y.2.2 by unfold slV;rw [hye]];refine⟨i,rfl,hil,i64 y.1[i],zc (haty i hil) (i:=0) rfl,DrawE.ord [] [0,1,2,3,4,5,6,7,8,9,10,11] (by kernel_rfl) ⟨_,zc3 (hdr hmV),y.1[i],rfl,hyi,?_⟩⟩;have hdV:Bw V V.drew:=(Ga _ V).drew;refine⟨u8 x.ev[y.1[i]].v,by have:=zc (zr hdV (hatq y.1[i] hyi)) (i:=3) (v:=u8 x.ev[y.1[i]].v) rfl;exact this,u8 e.v,zc (za (hdr fEV)) (i:=3) rfl,biE (fun hq=>?_) fun hq=>?_⟩
    ·have hq:x.ev[y.1[i]].v=e.v:=qu.1 (dT hq);rw [hPv,Uq hq,Gn rfl] at htk;refine⟨⟨by decide,by decide,rfl⟩,zA.enc y.1[i],rfl,?_⟩;have hba:Below V.drew.heap.size V.drew (V.drew.alloc (.cells (zA.enc y.1[i]).toArray 3)):=zba _ _;refine jJ (E:=zA) (T:=3) (B:=M) (l:=fr) (news:=[y.1[i]]) (cap:=c3) (m:=1) Tryz.underlying62 k3 rfl rfl rfl (hoV.below (hdV.trans hba)) rfl (qN zA y.1[i]) (by have:=hba.size;have:=hdV.size;omega) (by omega) (by show (fr.length+1)*8<=_;omega) ?_;intro p4 c4 U oU gU hbU hat4;exact nxI (by omega) ⟨(i+1,fr++[y.1[i]],p4,c4),(cvE rfl rfl),⟨hil,htk.symm,oU,((hbV.trans (hdV.mono (by omega))).trans (hba.mono (by have:=hdV.size;omega))).trans hbU⟩,zdc (by omega)⟩
    ·have hq:¬ x.ev[y.1[i]].v=e.v:=fun e'=>dF hq (by rw [e']);rw [hPv,Uf hq] at htk;simp only [Kt,Gj,QI] at htk;exact nxI (by omega) ⟨(i+1,fr,p3,c3),(cvE rfl rfl),⟨hil,htk.symm,hoV.below hdV,hbV.trans (hdV.mono (by omega))⟩,zdc (by omega)⟩
   ·have hc:¬ (i:Int)<(y.1.length:Int):=dF hc;obtain rfl:i=y.1.length:=(by omega);rw [Qv] at hfr;have hbMB:B<=M:=(by have:=hlt fBY;omega);have hxlen:xs.length=dn.length:=by
     have:=Gi List.length hxs;simpa using this
    refine⟨.slice p1 (dn.map (·.1)).length c1,zau hmV (i:=0) rfl,⟨by decide,by decide,rfl⟩,zA.enc k,rfl,?_⟩;obtain⟨V1,hV1⟩:=nm (V.alloc (.cells (zA.enc k).toArray 3));have hb1:Bw V V1:=(by rw [hV1];exact (zba _ _));have s1:V1.heap.size=V.heap.size+1:=(by rw [hV1];exact wz _ _);have hZV:Bw Z V:=zst hbY hbYV;have hZV1:Bw Z V1:=zst hZV hb1;have ho1V:=ho1.below hZV1;rw [<- hV1];refine zmx ho1V (by rw [hV1];exact qN zA k) (by omega) (by rw [QL];omega) fun q1 d1 U oU gU hat1=>?_;rw [zat] at gU;have hmV1:=zb hb1 hmV;have hmU:=qy hmV1 ho1V (by decide) gU;have fBU:=qy (zb hb1 fBV) ho1V (by decide) gU;refine zm k62 hmU (o:=0+333) (v := .slice q1 (dn.map (·.1)++[k]).length d1) rfl rfl (by rw [lap,zC];show 333<336;decide) rfl fun S fS gS sS=>?_;rw [show 0+333=333+0 from rfl,zjG] at fS;have fS:zbk S b x (some ⟨bp,op,none⟩) c [.slice q1 (dn.map (·.1)++[k]).length d1,.slice p2 xs.length c2,.slice (some ⟨B,0,none⟩) locs locs]:=fS;have p1M:∀ a,p1=some a->a.block<M:=fun a ha=>by have:=(zx ho1 ha).2.1;have:=hbY.size;omega
    have hoU:OwnS zA 3 M U p3 c3 fr:=zdt (hoV.below hb1) gU fun a b' ha hb e=>by have:=p1M a ha;have:=(zx hoV hb).1;omega
    have hWU:∀ y∈W,OwnS zA 3 B U y.2.1 y.2.2 y.1:=fun y hy=>zdt ((hWo y hy).below hZV1) gU fun a b' ha hb=>hd1 a ha y (.inr hy) b' hb;have hxU:∀ y∈xs,OwnS zA 3 B U y.2.1 y.2.2 y.1:=fun y hy=>zdt ((hxo y hy).below hZV1) gU fun a b' ha hb=>hd1 a ha y (.inl hy) b' hb;have ho2U:=zas (ho2.below hZV1) ho1V (by decide) gU;have hoS:=qz hoU hmU (by decide) gS;have hWS:∀ y∈W,OwnS zA 3 B S y.2.1 y.2.2 y.1:=fun y hy=>qz (hWU y hy) hmU (by decide) gS;have hxS:∀ y∈xs,OwnS zA 3 B S y.2.1 y.2.2 y.1:=fun y hy=>qz (hxU y hy) hmU (by decide) gS;have ho2S:=qz ho2U hmU (by decide) gS;have ho1S:=qz oU hmU (by decide) gS;have hBb:B≠b:=(by omega);have fBS:=(gS.block B (hlt fBU) (by simp;omega)).trans fBU;refine⟨_,zau fS (i:=1) rfl,⟨by decide,by decide,rfl⟩,jk.enc (fr,p3,c3),rfl,?_⟩;obtain⟨S1,hS1⟩:=nm (S.alloc (.cells (jk.enc (fr,p3,c3)).toArray 62));have hbS1:Bw S S1:=(by rw [hS1];exact (zba _ _));have sS1:S1.heap.size=S.heap.size+1:=(by rw [hS1];exact wz _ _);have ho2S1:=ho2S.below hbS1;have sU:=gU.size;unfold zed zaB;show SatR _ _;rw [<- hS1];refine zve ho2S1 (by rw [hS1];exact qN jk (fr,p3,c3)) (by omega) (by omega) fun q2 d2 N oN gN hat2=>?_;rw [zat] at gN;have fN:=qy (zb hbS1 fS) ho2S1 (by decide) gN;refine zm k93 fN (o:=0+334) (v := .slice q2 (xs++[(fr,p3,c3)]).length d2) rfl rfl (by rw [lap,zC];show 334<336;decide) rfl fun O fO gO sO=>?_;rw [show 0+334=333+1 from rfl,zjG] at fO;have fO:zbk O b x (some ⟨bp,op,none⟩) c [.slice q1 ((dn++[(k,fr)]).map (·.1)).length d1,.slice q2 (xs++[(fr,p3,c3)]).length d2,.slice (some ⟨B,0,none⟩) locs locs]:=by
     rw [QO];exact fO
    have step:∀ {q:OA} {cc:Nat} {ll:List Nat} {B':Nat},OwnS zA 3 B' S q cc ll->OwnS zA 3 B' O q cc ll:=fun h =>
     qz (zas (h.below hbS1) ho2S1 (by decide) gN) fN (by decide) gO
    have h2B:∀ a,p2=some a->a.block≠B:=hd2;have fBO:RowLH O B W:=by
     have h1:=zb hbS1 fBS;have h2:=(gN.block B (hlt h1) fun e=>by
      cases hp:p2 with
      | none=>rw [hp] at e;cases e
      | some a =>
       rw [hp] at e;simp only [Uc,KY] at e;exact hd2 a hp e.symm).trans h1
     exact (gO.block B (hlt h2) (by simp;omega)).trans h2
    have newr:∀ a,q1=some a->p1=some a\/V.heap.size<=a.block:=fun a ha=>(hat1 a ha).imp id fun h=>by omega
    have new2:∀ a,q2=some a->p2=some a\/U.heap.size<=a.block:=fun a ha=>(hat2 a ha).imp id fun h=>by omega
    have frM:∀ a,p3=some a->M<=a.block/\a.block<V.heap.size:=fun a ha=>⟨(zx hoV ha).1,(zx hoV ha).2.1⟩;have hwb:w.grownBy O (some b):=by
     have sG:=gS.size;have sZ:=hlt fZ;have e0:Below B Z V1:=hZV1.mono (by omega);have e1:Below B V1 U:=qS ho1V (by omega) (UV _) gU;have e2:Below B S S1:=hbS1.mono (by omega);have e3:Below B S1 N:=qS ho2S1 (by omega) (UV _) gN;rw [hB] at e0 e1 e2 e3;exact zd (jw (jw (zd (jw (jw gZ e0) e1) gS) e2) e3) gO
    refine nxI (by omega) ⟨(k+1,dn++[(k,fr)],xs++[(fr,p3,c3)],(q1,d1),(q2,d2)),(cvE rfl rfl),⟨hkl,?_,?_,?_,fO,fBO,hwb,fun y hy=>step (hWS y hy),fun y hy=>?_,?_,qz oN fN (by decide) gO,fun a ha y hy b' hb'=>?_,fun a ha=>?_⟩,zdc (by omega)⟩
    ·show RS=(dn++[(k,fr)])++_;rw [hspec,<- hfr,KN];rfl
    ·show (dn++[(k,fr)]).length<=k+1;simp only [lap,Qr,QM];omega
    ·show (xs++[(fr,p3,c3)]).map (·.1)=(dn++[(k,fr)]).map (·.2);rw [QO,QO,hxs];rfl
    ·rcases QQ.1 hy with hy | hy
     ·exact step (hxS y hy)
     ·rw [KA.1 hy];exact step (hoS.lower hbMB)
    ·show OwnS zA 3 B O q1 d1 ((dn++[(k,fr)]).map (·.1));rw [QO];exact step ho1S
    ·have old:(y∈xs\/y∈W)\/y=(fr,p3,c3):=by
      rcases hy with hy | hy
      ·rcases QQ.1 hy with hy | hy
       ·exact .inl (.inl hy)
       ·exact .inr (KA.1 hy)
      ·exact .inl (.inr hy)
     rcases old with hy | rfl
     ·rcases newr a ha with h | h
      ·exact hd1 a h y hy b' hb'
      ·have:b'.block<Z.heap.size:=by
        rcases hy with hy | hy
        ·exact (zx (hxo y hy) hb').2.1
        ·exact (zx (hWo y hy) hb').2.1
       have:=hZV.size;omega
     ·have h3:=frM b' hb';rcases newr a ha with h | h
      ·have:=p1M a h;omega
      ·omega
    ·rcases new2 a ha with h | h
     ·exact hd2 a h
     ·omega
 ·have hc:¬ (k:Int)<(x.ev.length:Int):=dF hc;obtain rfl:k=x.ev.length:=by omega
  rw [Ql] at hspec;have hspec:RS=dn++[]:=hspec;rw [QI] at hspec;subst hspec;refine⟨rfl,⟨p1,p2,some ⟨B,0,none⟩,c1,c2,locs,xs,W,by rw [hWl];rw [QL] at hmZ;exact hmZ,by rw [<- hB];exact ho1,hxs,by rw [<- hB];exact ho2,by rw [<- hB];exact hxo,rfl,?_,by rw [<- hB];exact hWo⟩,gZ⟩;rw [<- hB];have:=fZ.own (B:=B) (UV _) (by unfold maxLen;omega);rw [hWl] at this;exact this
end
theorem znf {P:Program} {w:Wd} {t ty:TypeId} {a b:Nat} {K:Value->Wd->Prop} (k:K (i64 (min a b:Nat)) w):SatR ((Builtin.min_ #[t,t] ty #[i64 a,i64 b]).run P w) K:=by
 refine SatR.mk (v:=i64 (min a b:Nat)) (w':=w) ?_ k;by_cases h:(b:Int)<a
 ·have e:min a b=b:=Nat.min_eq_right (by omega);rw [e];simp [Builtin.min_,Builtin.min2,i64,h]
 ·have e:min a b=a:=QY (by omega);rw [e];simp [Builtin.min_,Builtin.min2,i64,h]
section
variable {b o:Nat} {x:ExD} {q:OA} {c:Nat} {w:Wd} {r:Value} {p2 p3:OA} {c2 c3 lim:Nat} {xs ys:List zaU}
def zqw (lim:Nat) (fs ws:List (List Nat)):Nat:=match zfn lim fs 1 with
 | none=>0
 | some n=>zgs lim ws n
theorem zsb (hm:zK w ⟨b,o,none⟩ (exC x q c++[r,.slice p2 xs.length c2,.slice p3 ys.length c3])) (h2:SlR jk w p2 xs) (h3:SlR jk w p3 ys) (hx:∀ y∈xs,y.1.length<=1000) (hy:∀ y∈ys,y.1.length<=1000) (hxl:xs.length<=1000) (hyl:ys.length<=1000) (hl0:1<=lim) (hl:lim<=100000) :
  Calls PG 31 #[.pointer (some ⟨b,o,none⟩),i64 lim] w fun e w'=>e = .returned (i64 (zqw lim (xs.map (·.1)) (ys.map (·.1)):Nat))/\w=w':=by
 refine zI 52 [.pointer (some ⟨b,o,none⟩),i64 lim] Tryz.func31 ?_;have g2:w.cell? ⟨b,o+334,none⟩=some (.slice p2 xs.length c2):=zc hm (zgD (i:=1) rfl);have g3:w.cell? ⟨b,o+335,none⟩=some (.slice p3 ys.length c3):=zc hm (zgD (i:=2) rfl);refine⟨_,g2,?_⟩;obtain⟨fs,hfs⟩:=nm (xs.map (·.1));have hfl:fs.length=xs.length:=by rw [hfs,QL]
 rw [<- hfs];refine⟨Nat×Nat,fun s=>⟨[(0,.pointer (some ⟨b,o,none⟩)),(1,i64 lim),(5,i64 (s.2:Nat)),(14,.slice p2 xs.length c2),(15,i64 xs.length),(16,i64 (s.1:Nat))],[]⟩,
  fun s X=>s.1<=xs.length/\s.2<=lim/\zfn lim (fs.drop s.1) s.2=zfn lim fs 1/\w=X,fun s=>xs.length-s.1,(0,1),
  (cvE rfl rfl),⟨UY _,hl0,rfl,rfl⟩,?_⟩
 rintro⟨k,n⟩ _ ⟨hk,hnl,hacc,rfl⟩;dsimp only at hk hnl hacc ⊢;refine biE (fun hc=>?_) fun hc=>?_
 ·have hc:(k:Int)<(xs.length:Int):=dT hc;have hkl:k<xs.length:=by omega
  obtain⟨bp,op,rfl,hlp,hat⟩:=h2.at hkl;have hfk:fs[k]'(by omega)=xs[k].1:=by simp [hfs]
  rw [<- JE (show k<fs.length by omega),hfk] at hacc;have hacc:(if xs[k].1=[] then none else zfn lim (fs.drop (k+1)) (min (n*xs[k].1.length) lim))=zfn lim fs 1:=hacc;have h1000:=hx xs[k] (gM hkl);refine⟨k,rfl,hkl,slV xs[k],zc (hat k hkl) (i:=0) rfl,biE (fun h=>?_) fun h=>?_⟩
  ·have h:(xs[k].1.length:Int)=0:=dT h;have h0:xs[k].1=[]:=Jf (by omega);rw [Gn h0] at hacc;refine⟨?_,rfl⟩;unfold zqw;rw [<- hacc];rfl
  ·have h:¬ (xs[k].1.length:Int)=0:=dF h;have h0:xs[k].1≠[]:=fun e=>h (by rw [e];rfl);rw [Gm h0] at hacc;have hm':n*xs[k].1.length<=100000*1000:=Uo (by omega) h1000;exact⟨((n*xs[k].1.length:Nat):Int),by rw [QG];exact ze (by rw [<- QG];omega),znf (nxI (by omega) ⟨(k+1,min (n*xs[k].1.length) lim),(cvE rfl rfl),⟨hkl,QA _ _,hacc,rfl⟩,zdc (by omega)⟩)⟩
 have hc:¬ (k:Int)<(xs.length:Int):=dF hc;rw [JA (by omega)] at hacc;have hacc:some n=zfn lim fs 1:=hacc;have hres:zqw lim fs (ys.map (·.1))=zgs lim (ys.map (·.1)) n:=by unfold zqw;rw [<- hacc]
 rw [hres];obtain⟨ws,hws⟩:=nm (ys.map (·.1));have hwl:ws.length=ys.length:=by rw [hws,QL]
 rw [<- hws];clear hres hacc hc hk hfl hfs g2;refine⟨_,g3,?_⟩;refine⟨Nat×Nat,fun s=>⟨[(0,.pointer (some ⟨b,o,none⟩)),(1,i64 lim),(5,i64 (s.2:Nat)),(33,.slice p3 ys.length c3),(34,i64 ys.length),(35,i64 (s.1:Nat))],[]⟩,
  fun s X=>s.1<=ys.length/\s.2<=lim/\zgs lim (ws.drop s.1) s.2=zgs lim ws n/\w=X,fun s=>ys.length-s.1,(0,n),
  (cvE rfl rfl),⟨UY _,hnl,rfl,rfl⟩,?_⟩
 rintro⟨k,n'⟩ _ ⟨hk,hnl',hacc,rfl⟩;dsimp only at hk hnl' hacc ⊢;refine biE (fun hc=>?_) fun hc=>?_
 ·have hc:(k:Int)<(ys.length:Int):=dT hc;have hkl:k<ys.length:=by omega
  obtain⟨bp,op,rfl,hlp,hat⟩:=h3.at hkl;have hfk:ws[k]'(by omega)=ys[k].1:=by simp [hws]
  rw [<- JE (show k<ws.length by omega),hfk] at hacc;obtain⟨L,hL⟩:=nm (ys[k].1.length);have hacc:zgs lim (ws.drop (k+1)) (zgt lim L L 2 n')=zgs lim ws n:=by rw [hL];exact hacc
  have h1000:=hy ys[k] (gM hkl);rw [<- hL] at h1000;refine⟨k,rfl,hkl,slV ys[k],zc (hat k hkl) (i:=0) rfl,?_⟩;refine⟨Nat×Nat×Nat,fun s=>⟨[(0,.pointer (some ⟨b,o,none⟩)),(1,i64 lim),(5,i64 (s.2.2:Nat)),(9,slV ys[k]),(10,i64 (s.2.1:Nat)),(33,.slice (some ⟨bp,op,none⟩) ys.length c3),(34,i64 ys.length),(35,i64 (k:Nat))],[]⟩,
   fun s X=>s.2.2<=lim/\L<=s.2.1+s.1/\s.2.1<=L+2/\zgt lim L s.1 s.2.1 s.2.2=zgt lim L L 2 n'/\w=X,fun s=>s.1,(L,2,n'),
   (cvE rfl rfl),⟨hnl',by show L<=2+L;omega,by show 2<=L+2;omega,rfl,rfl⟩,?_⟩
  rintro⟨m,j,n2⟩ _ ⟨hn2,hLj,hjL,hK,rfl⟩;dsimp only at hn2 hLj hjL hK ⊢;refine biE (fun hc=>?_) fun hc=>?_
  ·have hc:(j:Int)<(ys[k].1.length:Int):=dT hc;have hjl:j<L:=by omega
   obtain⟨m,rfl⟩:∃ m',m=m'+1:=⟨m-1,by omega⟩;have hK:(if j<L then zgt lim L m (j+1) (min (n2*j) lim) else n2)=zgt lim L L 2 n':=hK;rw [Gn hjl] at hK;have hm':n2*j<=100000*1000:=Uo (by omega) (by omega);exact⟨((n2*j:Nat):Int),by rw [QG];exact ze (by rw [<- QG];omega),znf (nxI (by omega) ⟨(m,j+1,min (n2*j) lim),(cvE rfl rfl),⟨QA _ _,by show L<=j+1+m;omega,by show j+1<=L+2;omega,hK,rfl⟩,Qz _⟩)⟩
  ·have hc:¬ (j:Int)<(ys[k].1.length:Int):=dF hc;have hjl:¬ j<L:=by omega
   have hK2:n2=zgt lim L L 2 n':=by
    rw [<- hK]
    cases m with
    | zero=>rfl
    | succ m =>
     show n2=if j<L then _ else n2
     rw [Gm hjl]
   exact nxI (by omega) ⟨(k+1,n2),(cvE rfl rfl),⟨hkl,hn2,by rw [hK2];exact hacc,rfl⟩,zdc (by omega)⟩
 ·have hc:¬ (k:Int)<(ys.length:Int):=dF hc;rw [JA (by omega)] at hacc;have hacc:n'=zgs lim ws n:=hacc;rw [<- hacc];exact⟨rfl,rfl⟩
end
theorem jD:(zbq).toArray.size=333:=by kernel_rfl
theorem jQ:(zdj).toArray.size=336:=by kernel_rfl
section
variable {w:Wd}
theorem zr6 {n:Nat}:CB 108 #[i64 n] w (.agg (exC (ex0 n) none 0).toArray):=by
 refine qA 13 [i64 n] (.s .p (.c .p .p)) Tryz.func108 ?_;obtain⟨L,hL⟩:=nm (w.heap.size);obtain⟨X0,hX0⟩:=nm (w.alloc (.cells (zbq).toArray 46));have f0:X0.heap[L]?=some (.cells (zbq).toArray 46 (0,0)):=by rw [hX0,hL];exact zw w _
 have s0:X0.heap.size=L+1:=by rw [hX0,hL];exact wz _ _
 have hb0:Bw w X0:=by rw [hX0];exact (zba w _)
 refine⟨Unit,fun _=>⟨[(2,At0 L),(3,At0 (L+1))],[]⟩,fun _ X=>X.heap[L]?=some (.cells (zbq).toArray 46 (0,0))/\z6 X (L+1) (zdi n)/\Bw w X,?_,?_⟩
 ·refine⟨zf (zdi n),rfl,zq (X:=w.alloc (.cells (zbq).toArray 46 (0,0))) (v := .agg (zf (zdi n)).toArray) k39 (zh _) (by kernel_rfl) (zD _) fun V hbV fV sV=>?_⟩;rw [<- hX0] at hbV fV sV;rw [s0] at fV sV;exact⟨(),⟨.cons (by rw [hL];rfl) (.cons (by rw [<- s0,hX0];rfl) .nil),rfl⟩,zb hbV f0,fV,(zst hb0 hbV)⟩
 rintro _ X ⟨f1,f2,hbX⟩;refine⟨zf (zdi n),zh _,za f2,hlt f2,zf (zdi n),zh _,za f2,hlt f2,zf (zdi n),zh _,za f2,hlt f2,zf (zdi n),zh _,za f2,hlt f2,zf (zdi n),zh _,za f2,hlt f2,zf (zdi n),zh _,za f2,hlt f2,exC (ex0 n) none 0,by kernel_rfl,?_⟩;exact zt (v := .agg (exC (ex0 n) none 0).toArray) k46 f1 (zC _ _ _) jD (za3 _ _ _) ⟨exC (ex0 n) none 0,zC _ _ _,za (zn f1),rfl,zl hbX (by omega) _⟩
end
end Go.Proofs.YtkpaomeeknegpaaGreatDoor
