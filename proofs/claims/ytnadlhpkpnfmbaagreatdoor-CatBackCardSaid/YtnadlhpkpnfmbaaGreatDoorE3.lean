/- Contracts of functions, and plain facts, for the law that the last text of this claim proves. -/
import Derived.Test.YtnadlhpkpnfmbaaGreatDoorE2
import Derived.Test.YtnadlhpkpnfmbaaGreatDoorE1
import Derived.Laws.StructEq
import Derived.ChangeKeysEq
set_option linter.unusedSimpArgs false
set_option linter.unusedVariables false
namespace Go.Proofs.YtnadlhpkpnfmbaaGreatDoor
open Go.Vc Go.RowKit Go.Sei
section
variable {r:RelD}
theorem zve {bx:Nat} {W0:Wd} (hr:zI r.to) (hn:r.n<=48) (fx:qj W0 bx r) (hT:Tz64M W0) :
  ziH PG 268 [At0 bx] (zcX r) W0 (fun k=>k=bx\/k=4) (fun _=>False) StO:=by
 intro yl F0 J Jx W hsz hrd hrf hJ hJx hy h0;have fxW:qj W bx r:=(hrd bx (.inl (.inl rfl))).trans fx;have hTW:Tz64M W:=j7 hT (hrd _ (.inl (.inr rfl)));refine zD 17 [.func (.yield yl) #[] #[],At0 bx] Tryz.func268 ?_;refine⟨ze r,zf _,za fxW,hlt fxW,cmo (ziJ hr hTW) ?_⟩;rintro e X ⟨rfl,hbX⟩;refine biE (fun h=>?_) fun h=>?_
 ·have h:zjt r=false:=by
   have h:(!zjt r)=true:=h;simpa using h
  have hs:zcX r=[]:=by unfold zcX;rw [h];rfl
  rw [hs];exact⟨⟨_,rfl⟩,.inl ⟨F0,hJ.step _ _ _ _ h0 (.below hbX)⟩⟩
 have h:zjt r=true:=by
  have h:(!zjt r)=false:=h;simpa using h
 have hs:zcX r=zco (qP r).to 64 (zax r.n) []:=by unfold zcX;rw [h];rfl
 rw [hs] at hy ⊢;refine⟨ze r,zf _,za (zb hbX fxW),hlt (zb hbX fxW),cmo (zhF hr (hTW.below hbX)) ?_⟩;rintro e Y ⟨rfl,hbY,hrB⟩;have hbXY:=zst hbX hbY;refine zk (X:=Y) (v := .agg (ze (qP r)).toArray) k30 (zf _) (by kernel_rfl) (zK _) fun V hbV fV sV=>?_;have hbV2:=zst hbXY hbV;have fxV:=zb hbV2 fxW;have hTV:=hTW.below hbV2;have hok:okR r=true:=by
  unfold zjt zfa at h
  split at h
  ·assumption
  ·simp at h
 obtain⟨p0,p48,_⟩:=jp hok;obtain⟨n,hnn⟩:∃ n:Nat,r.n=n:=⟨r.n.toNat,by omega⟩;have hn48:n<=48:=by omega
 have hal:els (zat n)=List.range n:=zjj (by omega);have wY:=hbXY.size;have hbVF:¬ F0 Y.heap.size:=fun h=>by have:=(hJ.lt _ _ _ _ h0 h).1;omega
 have htl:=zaC hTW;have hJn:JG W.heap.size (fun _=>False) (fun pre F Z=>J pre F Z/\W.heap.size<=Z.heap.size):=⟨fun s F A B ⟨h,hn⟩ hs=>⟨hJ.step _ _ _ _ h hs,UT hn hs.size⟩,fun s F A k ⟨h,_⟩ hk=>hJ.lt _ _ _ _ h hk⟩;have hal2:zax r.n=zat n:=by rw [ze5,hnn]
 have main:∀ Z:Wd,OwnS zC 3 V.heap.size Z (some ⟨V.heap.size,0,none⟩) n []->Bw V Z->Calls PG 269 #[At0 Y.heap.size,s64 (zat n),.slice (some ⟨V.heap.size,0,none⟩) 0 n,.func (.yield yl) #[] #[]] Z fun e Y2=>(∃ v,e = .returned v)/\((∃ F',J (zco (qP r).to 64 (zax r.n) []) F' Y2)\/∃ pre F',pre <+: zco (qP r).to 64 (zax r.n) []/\Jx pre F' Y2):=by
  intro Z oZ hbZ;have hbWZ:Bw W Z:=zst hbV2 hbZ;refine cmo (zpU (l:=[]) (J:=fun pre F Z=>J pre F Z/\W.heap.size<=Z.heap.size) (Jx:=Jx) (n0:=W.heap.size) (n:=n) (bB:=Y.heap.size) (r:=qP r) (xs:=zco (qP r).to 64 (zax r.n) []) hJn (fun _ _ _ h=>h.2) (fun pre x vs F W1 ⟨hj,hn⟩ hst hpre=>YieldR.mono (hy pre x vs F W1 hj hst hpre) fun v W2 h=>?_) hrB hn48 htl 64 (zat n) V.heap.size [] F0 Z (zeY _) (jY _) (fun i hi=>by
   rw [hal] at hi;have:=Uq.1 hi;omega) (by rw [hal];simp) (oZ.lower hbV2.size) (fun h=>?_) ⟨hJ.step _ _ _ _ h0 (.below hbWZ),hbWZ.size⟩ (zb hbZ fV) hbVF wY (by omega) (hTV.below hbZ) (hrf _ (.inr rfl)) (by rw [hal2];exact List.prefix_refl _)) ?_
  ·rcases h with ⟨rfl,F',h1,h2⟩ | h
   ·exact .inl ⟨rfl,F',⟨h1,UT hn h2.size⟩,h2⟩
   ·exact .inr h
  ·have:=(hJ.lt _ _ _ _ h0 h).1;have:=hbV2.size;omega
  ·rintro e Y2 (⟨rfl,F',⟨hj,_⟩,_⟩ | ⟨rfl,pre',F',h1,h2⟩)
   ·rw [hal2];exact⟨⟨_,rfl⟩,.inl ⟨F',hj⟩⟩
   ·exact⟨⟨_,rfl⟩,.inr ⟨pre',F',h1,h2⟩⟩
 refine DrawE.treeQ [7] (.op 0 (.op 1 (.op 3 (.op 4 (.op 6 (.alt (.op 2 (.op 5 (.op 7 .nil))) (.op 5 (.op 2 (.op 7 .nil))))))))) (by kernel_rfl) ⟨i64 n,by rw [<- hnn];exact zc (za fxV) (i:=0) rfl,i64 n,by rw [<- hnn];exact zc (za fxV) (i:=0) rfl,Gm ?_ ?_⟩
 ·refine cmo zhG ?_;rintro e _ ⟨rfl,rfl⟩;refine⟨Gh _ _,zda (E:=zC) Tryz.underlying128 k3 rfl rfl rfl n (by show 8*n<=_;omega) (by unfold maxLen;omega) fun Z oZ hbZ sZ=>⟨hbZ,cmo (main Z oZ (((Gh _ V).drew).trans hbZ)) ?_⟩⟩;rintro e Y2 ⟨⟨v,rfl⟩,h⟩;exact⟨⟨_,rfl⟩,h⟩
 ·refine zda (E:=zC) Tryz.underlying128 k3 rfl rfl rfl n (by show 8*n<=_;omega) (by unfold maxLen;omega) fun Z oZ hbZ sZ=>⟨hbZ,cmo zhG ?_⟩;rintro e _ ⟨rfl,rfl⟩;refine⟨Gh _ _,cmo (main Z oZ (((Gh _ V).drew).trans hbZ)) ?_⟩;rintro e Y2 ⟨⟨v,rfl⟩,h⟩;exact⟨⟨_,rfl⟩,h⟩
theorem ztV {w:Wd}:Calls PG 233 #[.agg (ze r).toArray] w fun e w'=>e = .returned (.func (.func 268) #[] #[At0 w.heap.size])/\qj w' w.heap.size r/\w'.heap.size=w.heap.size+1/\Bw w w':=by
 refine zD 4 [.agg (ze r).toArray] Tryz.func233 ?_;exact⟨rfl,zA w _,wz _ _,(zba w _)⟩
theorem zov {b:Nat} {m:Nat} {w:Wd} (hr:zI r.to) (fb:qj w b r):CB 232 #[At0 b,i64 m] w (.bool (decide (m<=10000)&&okR r)):=by
 refine zD 17 [At0 b,i64 m] Tryz.func232 ?_;refine biE (fun h=>?_) fun h=>?_
 ·refine biE (fun h2=>?_) fun h2=>?_
  ·have h2:(m:Int)<=10000:=dT h2;refine⟨ze r,zf _,za fb,hlt fb,cmo (je hr) ?_⟩;rintro e Y ⟨rfl,hbY⟩;exact⟨rb (by rw [Ut (show m<=10000 by omega),Uz]),hbY⟩
  ·have h2:¬ (m:Int)<=10000:=dF h2;exact⟨rb (by rw [Uj (show ¬ m<=10000 by omega),Ul]),Gh _ _⟩
 ·have h:¬ (0:Int)<=m:=dF h;omega
end
def qO:Enc (List Nat×OA×Nat) where
 sz:=1
 enc x:=[.slice x.2.1 x.1.length x.2.2]
 len x:=rfl
 one x v hv:=by
  simp at hv;subst hv;rfl
 pos:=by decide
theorem zqF {p:OA} {cap:Nat} {l:List Nat} {w:Wd} (hl:SlR zC w p l) (hn:l.length<=100000) (hc:p=none->cap=0) :
  Calls PG 234 #[.slice p l.length cap] w fun e w'=>(∃ q c,e = .returned (.slice q l.length c)/\OwnS zC 3 w.heap.size w' q c l)/\Bw w w':=by
 refine zD 8 [.slice p l.length cap] Tryz.func234 ?_;refine⟨_,fun w=>zty Tryz.underlying128 _ _ p l.length cap w,?_⟩
 cases p with
 | none =>
  refine brT ?_;have e:=hl.none;subst e;exact⟨⟨none,0,rfl,OwnS.nil⟩,Gh _ _⟩
 | some a =>
  refine brF ⟨⟨by decide,by decide,rfl⟩,[],rfl,?_⟩;have hb0:Bw w (w.alloc (.cells #[] 3)):=zba w _;refine zgp (E:=zC) (T:=3) (B:=w.heap.size) (l:=[]) (news:=l) (cap:=0) Tryz.underlying128 k3 rfl rfl rfl zgJ rfl (hl.below hb0) (fun h=>by cases h) hb0.size (by simp;omega) (by show (0+l.length)*8<=_;omega) ?_;intro p' cap' w' ho hg hbw;exact⟨⟨p',cap',rfl,ho⟩,hb0.trans hbw⟩
def zt2 (B:Nat) (F:Nat->Prop) (Y:Wd) (x:List Nat×OA×Nat):Prop:=OwnS zC 3 B Y x.2.1 x.2.2 x.1/\∀ a,x.2.1=some a->F a.block
theorem zfn (B:Nat):ziG 128 170 (zt2 B):=by
 rintro F G Y Z x ⟨h1,h2⟩ hs hFG;refine⟨h1.same fun a ha=>?_,fun a ha=>hFG _ (h2 a ha)⟩;obtain⟨_,_,cur,hc⟩:=zx h1 ha;exact hs _ cur 3 (h2 a ha) hc (by decide) (by decide)
theorem zrF {before:Nat->Nat}:∀ (m left:Nat) (l:List Nat),∀ x∈zco before m left l,x.length<=l.length+m:=by
 intro m
 induction m with
 | zero =>
  intro left l x hx;unfold zco at hx
  split at hx
  ·simp only [KA] at hx;subst hx;omega
  ·cases hx
 | succ m ih =>
  intro left l x hx;unfold zco at hx
  split at hx
  ·simp only [KA] at hx;subst hx;omega
  ·obtain⟨a,_,ha⟩:=List.mem_flatMap.1 hx
   split at ha
   ·have:=ih _ _ _ ha;simp only [lap,Qt,QR] at this;omega
   ·cases ha
theorem zmG {r:RelD} {x:List Nat} (h:x∈zcX r):x.length<=64:=by
 unfold zcX at h
 split at h
 ·have:=zrF _ _ _ x h;simpa using this
 ·cases h
def AscB (xs:List (List Nat×OA×Nat)):Prop:=xs.Pairwise fun x y=>∀ a b,x.2.1=some a->y.2.1=some b->a.block<b.block
theorem AscB.snoc {xs:List (List Nat×OA×Nat)} {n:Nat} {y:List Nat×OA×Nat} (h:AscB xs) (h1:∀ x∈xs,∀ a,x.2.1=some a->a.block<n) (h2:∀ a,y.2.1=some a->n<=a.block):AscB (xs++[y]):=by
 unfold AscB;rw [List.pairwise_append];refine⟨h,List.pairwise_singleton _ _,fun x hx z hz a b ha hb=>?_⟩;rw [KA.1 hz] at hb;exact nL (h1 x hx a ha) (h2 b hb)
abbrev zuZ:List (List Nat×OA×Nat):=[]
theorem zqx {r:RelD} {m:Nat} {w:Wd} (hr:zI r.to) (hT:Tz64M w) (hm:m<=10000) (hok:okR r=true) :
  Calls PG 203 #[.agg (ze r).toArray,i64 m] w fun e w' =>
   (((zcX r).length<=m/\∃ (xs:List (List Nat×OA×Nat)) (p:OA) (c:Nat),e = .returned (.tuple #[.slice p xs.length c,i64 0])/\xs.map (·.1)=zcX r/\AscB xs/\OwnS qO 128 w.heap.size w' p c xs/\∀ x∈xs,OwnS zC 3 w.heap.size w' x.2.1 x.2.2 x.1) \/
    (m<(zcX r).length/\e = .returned (.tuple #[.slice none 0 0,i64 5])))/\Bw w w':=by
 refine z6 24 [.agg (ze r).toArray,i64 m] (.c .p (.s .p (.c .p .p))) Tryz.func203 ?_;obtain⟨L,hL⟩:=nm (w.heap.size);refine⟨Unit,fun _=>⟨[(2,At0 L),(3,At0 (L+1)),(4,At0 (L+2)),(5,At0 (L+3))],[]⟩,fun _ X=>(qj X L r/\X.heap[L+1]?=some (.cells #[i64 m] 3 (0,0))/\X.heap[L+2]?=some (.cells #[.slice none 0 0] 170 (0,0))/\X.heap[L+3]?=some (.cells #[i64 0] 42 (0,0)))/\X.heap.size=L+4/\Bw w X,?_,?_⟩
 ·have s1:=wz w (.cells (ze r).toArray 30);have h2:=zA (w.alloc (.cells (ze r).toArray 30)) (.cells #[i64 m] 3 (0,0));have s2:=wz (w.alloc (.cells (ze r).toArray 30)) (.cells #[i64 m] 3 (0,0));have h3:=zA ((w.alloc (.cells (ze r).toArray 30)).alloc (.cells #[i64 m] 3 (0,0))) (.cells #[.slice none 0 0] 170 (0,0));have s3:=wz ((w.alloc (.cells (ze r).toArray 30)).alloc (.cells #[i64 m] 3 (0,0))) (.cells #[.slice none 0 0] 170 (0,0));have h4:=zA (((w.alloc (.cells (ze r).toArray 30)).alloc (.cells #[i64 m] 3 (0,0))).alloc (.cells #[.slice none 0 0] 170 (0,0))) (.cells #[i64 0] 42 (0,0));have s4:=wz (((w.alloc (.cells (ze r).toArray 30)).alloc (.cells #[i64 m] 3 (0,0))).alloc (.cells #[.slice none 0 0] 170 (0,0))) (.cells #[i64 0] 42 (0,0));rw [s1] at h2 s2;rw [s2] at h3 s3;rw [s3] at h4 s4;rw [<- hL] at h2 s2 h3 s3 h4 s4;have f0:=qy (.cells #[i64 0] 42 (0,0)) (qy (.cells #[.slice none 0 0] 170 (0,0)) (qy (.cells #[i64 m] 3 (0,0)) (zA w (.cells (ze r).toArray 30))));rw [<- hL] at f0;exact⟨(),⟨.cons (by rw [hL];rfl) (.cons (by rw [hL,<- s1];rfl) (.cons (by rw [<- s2];rfl) (.cons (by rw [<- s3];rfl) .nil))),rfl⟩,⟨f0,qy _ (qy _ h2),qy _ h3,h4⟩,s4,((((zba w _)).alloc (by simp) _).alloc (by simp;omega) _).alloc (by simp;omega) _⟩
 rintro _ X ⟨⟨f0,f1,f2,f3⟩,sX,hbX⟩;refine⟨_,zc (za f1) (i:=0) rfl,cmo (zov hr f0) ?_⟩;rintro e Y ⟨rfl,hbY⟩;refine brN (by rw [hok,Ut hm];rfl) ?_;have hwY:=zst hbX hbY;obtain⟨M,hM⟩:=nm (Y.heap.size);have hMX:L+4<=M:=by have:=hbY.size;omega
 refine⟨Unit,fun _=>⟨[(2,At0 L),(3,At0 (L+1)),(4,At0 (L+2)),(5,At0 (L+3)),(6,At0 M)],[]⟩,fun _ V=>V.heap[M]?=some (.cells #[.slice none 0 0] 170 (0,0))/\V.heap.size=M+1/\Bw X V,?_,?_⟩
 ·exact⟨(),⟨.cons rfl (.cons rfl (.cons rfl (.cons rfl (.cons (by rw [hM];rfl) .nil)))),rfl⟩,by rw [hM];exact zA Y _,by rw [hM];exact wz Y _,hbY.alloc hbY.size _⟩
 rintro _ V ⟨fM,sV,hbV⟩;have hwV:=zst hbX hbV;have f0:=zb hbV f0;have f1:=zb hbV f1;have f2:=zb hbV f2;have f3:=zb hbV f3;refine⟨ze r,zf _,za f0,hlt f0,cmo ztV ?_⟩;rintro e W ⟨rfl,fx,sW,hbW⟩;obtain⟨p0,p48,_⟩:=jp hok;have hwW:=zst hwV hbW;have htl:=zaC hT;have hI:=zve hr p48 fx (hT.below hwW);have f1:=zb hbW f1;have f2:=zb hbW f2;have f3:=zb hbW f3;have fM:=zb hbW fM;have hwL:w.heap.size=L:=hL.symm;clear hbV hbY hwY hbX f0 sX;refine zc4 (zbi _) rfl (lb := #[At0 V.heap.size]) rfl rfl hI (Gc _) (fun k hk=>⟨?_,rfl⟩) (fun pre vs W ⟨l,q,c,_,h,_⟩=>by rw [h];rfl) (by decide)
  (fun k=>k=M\/k=L+2\/k=L+3)
  (fun pre F Z=>(∃ xs,(xs.map (·.1)=pre/\pre.length<=m/\AscB xs)/\Gath qO 128 170 (L+4) W.heap.size M W (zt2 (L+4)) xs F Z)/\F (L+2)/\F (L+3))
  (fun ex pre F Z=>ex = .ret/\m<(zcX r).length/\Z.heap[L+2]?=some (.cells #[.slice none 0 0] 170 (0,0))/\Z.heap[L+3]?=some (.cells #[i64 5] 42 (0,0))/\Bw w Z/\W.heap.size<=Z.heap.size/\F (L+2)/\F (L+3)/\∀ k,F k->k<Z.heap.size)
  (fun k hk=>?_) ⟨?_,?_⟩ (fun ex=>⟨?_,?_⟩) ?_ ?_ ?_ ?_
 ·rcases hk with (rfl | rfl) | h
  ·omega
  ·have:=hwW.size;omega
  ·exact h.elim
 ·rcases hk with rfl | rfl <;> omega
 ·rintro pre F A C ⟨h,h2,h3⟩ hs;exact⟨(Gath.iter (σ:=List (List Nat)) (f:=fun pre xs=>xs.map (·.1)=pre/\pre.length<=m/\AscB xs) (zfn (L+4)) (by omega)).step pre F A C h hs,h2,h3⟩
 ·rintro pre F A k ⟨h,_⟩ hk;exact (Gath.iter (σ:=List (List Nat)) (f:=fun pre xs=>xs.map (·.1)=pre/\pre.length<=m/\AscB xs) (zfn (L+4)) (by omega)).lt pre F A k h hk
 ·rintro pre F A C ⟨h1,h2,h3,h4,h5,h6,h7,h8,h9⟩ hs;exact⟨h1,h2,(hs.same _ (hlt h3) (.inr h7)).trans h3,(hs.same _ (hlt h4) (.inr h8)).trans h4,h5.trans ⟨hs.os,hs.tape,hs.output,hs.size,fun k hk=>hs.same k (nL hk h5.size) (.inl ⟨by omega,fun h=>h⟩)⟩,UT h6 hs.size,h7,h8,fun k hk=>nL (h9 k hk) hs.size⟩
 ·rintro pre F A k ⟨h1,h2,h3,h4,h5,h6,h7,h8,h9⟩ hk;exact⟨h9 k hk,fun h=>h⟩
 ·refine⟨⟨zuZ,⟨rfl,Ge _,List.Pairwise.nil⟩,⟨Gc _,.inl rfl,fun k hk=>?_,⟨none,0,fM,OwnS.nil,fun a h=>by cases h⟩,fun x hx=>(by cases hx),Gh _ _⟩⟩,.inr (.inl rfl),.inr (.inr rfl)⟩;rcases hk with rfl | rfl | rfl <;> omega
 ·rintro yl pre x vs F Y hyl hpre hJ ⟨l,q,c,hlast,rfl,hsl,hqc,hcel⟩ hfy ⟨lo,hlo⟩;have hxR:x=l:=by simpa using hlast
  subst hxR;refine⟨rfl,F,KeepsG.refl _ _,hJ,?_⟩;rintro o Y2 hY2 ⟨⟨xs,⟨hxs,hpm,hasc⟩,hG⟩,hF2,hF3⟩;have hpl:pre.length<(zcX r).length:=by
   obtain⟨t,ht⟩:=hpre;rw [<- ht];simp only [lap,Qt];omega
  have hxl:xs.length=pre.length:=by rw [<- hxs,QQ]
  have hmem:x∈zcX r:=hpre.subset (by simp);have hlen:=zmG hmem;have hslY:SlR zC Y2 q x:=by
   rw [hY2];refine qN hsl fun a ha=>zj fun e=>?_;obtain⟨cur,hcur⟩:=hcel a ha;rw [e,hlo] at hcur
   cases hcur
  obtain⟨p,c',h4,h5,h6⟩:=hG.row;have hWL:L+4<=W.heap.size:=by omega
  have g1:Y2.heap[L+1]?=some (.cells #[i64 m] 3 (0,0)):=(hG.old.block _ (by omega)).trans f1;refine⟨_,zc (za h4) (i:=0) rfl,_,zc (za g1) (i:=0) rfl,biE (fun hc=>?_) fun hc=>?_⟩
  ·have hc:((xs.length:Nat):Int)=(m:Int):=dT hc;have g2:Y2.heap[L+2]?=some (.cells #[.slice none 0 0] 170 (0,0)):=(hG.old.block _ (by omega)).trans f2;have g3:Y2.heap[L+3]?=some (.cells #[i64 0] 42 (0,0)):=(hG.old.block _ (by omega)).trans f3;refine zu zn1 g2 (o:=0) (v := .slice none 0 0) rfl rfl (by show 0<1;decide) rfl fun Z1 fZ1 gZ1 sZ1=>zu k42 ((gZ1.block (L+3) (hlt g3) (by simp)).trans g3) (o:=0) (v:=i64 5) rfl rfl (by show 0<1;decide) rfl fun Z2 fZ2 gZ2 sZ2=>⟨F,⟨rfl,by omega,(gZ2.block (L+2) (hlt fZ1) (by simp)).trans fZ1,fZ2,?_,by have:=hG.size;omega,hF2,hF3,fun k hk=>by have:=hG.lt k hk;omega⟩,(KeepsG.grown gZ1 hF2).trans (KeepsG.grown gZ2 hF3)⟩;have hwY:=hwW.trans (hG.old.mono (by omega));exact (hwY.trans (zm gZ1 hwY.size (by omega))).trans (zm gZ2 (by have:=hwY.size;omega) (by omega))
  ·have hc:¬ ((xs.length:Nat):Int)=(m:Int):=dF hc;refine DrawE.ord [4,5] [0,1,2,3,4,5] (by kernel_rfl) ?_;have hd2:Bw Y2 Y2.drew:=(Gh _ _).drew;refine⟨_,zc (za (hdr h4)) (i:=0) rfl,cmo (zqF (hslY.below hd2) (by omega) hqc) ?_⟩;rintro e Y3 ⟨⟨q1,k1,rfl,o1⟩,hb3⟩;refine⟨hb3,?_⟩;obtain⟨nx,hnx⟩:∃ nx:List Nat×OA×Nat,nx=(x,q1,k1):=⟨_,rfl⟩;have hen:[Value.slice q1 x.length k1]=qO.enc nx:=by rw [hnx];rfl
   refine⟨⟨by decide,by decide,rfl⟩,qO.enc nx,by rw [<- hen];rfl,?_⟩;have hba:Bw Y3 (Y3.alloc (.cells (qO.enc nx).toArray 128)):=zba _ _;refine⟨hba,?_⟩;have hnw:∀ (G:Nat->Prop) (Z:Wd),(∀ k,Y2.heap.size<=k->k<Y3.heap.size->Z.heap[k]?=Y3.heap[k]?)->(∀ k,Y2.heap.size<=k->k<Y3.heap.size->G k)->zt2 (L+4) G Z nx:=by
    intro G Z hs hg;rw [hnx];have ol:∀ a,q1=some a->Y2.heap.size<=a.block/\a.block<Y3.heap.size:=fun a ha=>⟨(zx o1 ha).1,(zx o1 ha).2.1⟩;have hY2s:=hG.size;exact⟨OwnS.lower (o1.same fun a ha=>hs _ (ol a ha).1 (ol a ha).2) (by show L+4<=Y2.heap.size;omega),fun a ha=>hg _ (ol a ha).1 (ol a ha).2⟩
   obtain⟨v,Y5,hrun,Z,hrun2,F',hG',hK',hFF⟩:=hG.step (P:=PG) (ty:=170) (cap1:=1) (zfn (L+4)) (by decide) Tryz.underlying170 zpF rfl rfl rfl zn1 rfl (by omega) (by omega) (hd2.trans hb3) nx (by omega) (by show (xs.length+1)*24<=_;omega) hnw p c' h4;exact SatR.mk hrun (SatR.mk hrun2 ⟨F',⟨⟨_,⟨by rw [QT,hxs,hnx];rfl,by simp only [lap,Qt,QR];omega,hasc.snoc (n:=Y2.heap.size) (fun x' hx' a ha=>(zx (hG.nest x' hx').1 ha).2.1) (fun a ha=>by rw [hnx] at ha;exact (zx o1 ha).1)⟩,hG'⟩,hFF _ hF2,hFF _ hF3⟩,hK'⟩)
 ·rintro D F Y hD hfD ⟨⟨xs,⟨hxs,hpm,hasc⟩,hG⟩,hF2,hF3⟩ hdef;obtain⟨p,c',h4,h5,h6⟩:=hG.row;have hWL:L+4<=W.heap.size:=by omega
  have g2:Y.heap[L+2]?=some (.cells #[.slice none 0 0] 170 (0,0)):=(hG.old.block _ (by omega)).trans f2;have g3:Y.heap[L+3]?=some (.cells #[i64 0] 42 (0,0)):=(hG.old.block _ (by omega)).trans f3;refine⟨_,zc (za h4) (i:=0) rfl,zu zn1 g2 (o:=0) (v := .slice p xs.length c') rfl rfl (by show 0<1;decide) rfl fun Z1 fZ1 gZ1 sZ1=>zu k42 ((gZ1.block (L+3) (hlt g3) (by simp)).trans g3) (o:=0) (v:=i64 0) rfl rfl (by show 0<1;decide) rfl fun Z2 fZ2 gZ2 sZ2=>?_⟩;have k2:∀ k,k<Y.heap.size->k≠L+2->k≠L+3->Z2.heap[k]?=Y.heap[k]?:=fun k hk n1 n2=>(gZ2.block k (by rw [sZ1];exact hk) (by simpa using n2)).trans (gZ1.block k hk (by simpa using n1));refine⟨_,rfl,(k2 D (hlt hdef) (by omega) (by omega)).trans hdef,?_⟩;have f2':=(gZ2.block (L+2) (hlt fZ1) (by simp)).trans fZ1;have nD2:D≠L+2:=fun e=>hfD (e▸hF2);have nD3:D≠L+3:=fun e=>hfD (e▸hF3);have hwY:=hwW.trans (hG.old.mono (by omega));have b2:=(hwY.trans (zm gZ1 hwY.size (by omega))).trans (zm gZ2 (by have:=hwY.size;omega) (by omega));have kp:∀ a:Addr,L+4<=a.block->F a.block->a.block<Y.heap.size->(Z2.putObj D (.deferred none)).heap[a.block]?=Y.heap[a.block]?:=fun a h1 h2 h3=>(zj fun e=>by rw [<- e] at hfD;exact hfD h2).trans (k2 _ h3 (by omega) (by omega));refine⟨.slice p xs.length c',zc (za ((zj fun e=>nD2 e.symm).trans f2')) (i:=0) rfl,i64 0,zc (za ((zj fun e=>nD3 e.symm).trans fZ2)) (i:=0) rfl,.inl ⟨by rw [<- hxs,QQ] at hpm ⊢;exact hpm,xs,p,c',rfl,hxs,hasc,?_,fun x hx=>?_⟩,qX b2 (by omega) _⟩
  ·exact OwnS.lower (h5.same fun a ha=>kp a (zx h5 ha).1 (h6 a ha) (zx h5 ha).2.1) (by omega)
  ·obtain⟨hx1,hx2⟩:=hG.nest x hx;exact OwnS.lower (hx1.same fun a ha=>kp a (zx hx1 ha).1 (hx2 a ha) (zx hx1 ha).2.1) (by omega)
 ·rintro D ex pre F Y hD hfD hpre ⟨rfl,hm2,h3,h4,h5,h6,h7,h8,h9⟩ hdef;refine⟨_,rfl,hdef,?_⟩;have nD2:D≠L+2:=fun e=>hfD (e▸h7);have nD3:D≠L+3:=fun e=>hfD (e▸h8);exact⟨_,zc (za ((zj fun e=>nD2 e.symm).trans h3)) (i:=0) rfl,_,zc (za ((zj fun e=>nD3 e.symm).trans h4)) (i:=0) rfl,.inr ⟨hm2,rfl⟩,qX h5 (by have:=hwW.size;omega) _⟩
theorem zqC {p:OA} {cap:Nat} {l:List Nat} {s:Nat} {w:Wd} (hl:SlR zC w p l) (hn:l.length<=140737488351232) :
  Calls PG 231 #[.slice p l.length cap,i64 s] w fun e w'=>∃ n:Int,e = .returned (i64 n)/\decide (0<=n)=l.any (fun q=>decide (q=s))/\w=w':=by
 refine zD 19 [.slice p l.length cap,i64 s] Tryz.func231 ?_;refine⟨Nat,fun k=>⟨[(0,.slice p l.length cap),(1,i64 s),(7,i64 l.length),(8,i64 (k:Nat))],[]⟩,fun k X=>k<=l.length/\(∀ q∈l.take k,¬ q=s)/\w=X,fun k=>l.length-k,0,(cvE rfl rfl),⟨Ge _,by simp,rfl⟩,?_⟩;rintro k _ ⟨hk,hno,rfl⟩;dsimp only at hk hno ⊢;refine biE (fun hc=>?_) fun hc=>?_
 ·have hc:(k:Int)<(l.length:Int):=dT hc;have hkl:k<l.length:=by omega
  obtain⟨b,o,rfl,hb,hat⟩:=hl.at hkl;refine⟨k,rfl,hkl,i64 l[k],zc (hat k hkl) (i:=0) rfl,biE (fun h=>?_) fun h=>?_⟩
  ·have h:(s:Int)=(l[k]:Nat):=dT h;refine⟨k,rfl,?_,rfl⟩;rw [Ut (by omega)];symm;rw [Ql];exact⟨l[k],gM _,Ut (by omega)⟩
  ·have h:¬ (s:Int)=(l[k]:Nat):=dF h;refine⟨(k+1:Nat),(zi (by omega)).trans (by omega),k+1,(cvE rfl rfl),⟨hkl,?_,rfl⟩,zdc (by omega)⟩;rw [tsg hkl];intro q hq;rcases QU.1 hq with hq | hq
   ·exact hno q hq
   ·simp only [KA] at hq;rw [hq];exact fun e=>h (by rw [e])
 ·have hc:¬ (k:Int)<(l.length:Int):=dF hc;obtain rfl:k=l.length:=by omega
  rw [Qx] at hno;refine⟨-1,rfl,?_,rfl⟩;symm;show _=false;rw [KN];exact fun q hq=>by simpa using hno q hq
theorem zk3 {p:OA} {cap:Nat} {l:List Nat} {s:Nat} {w:Wd} (hl:SlR zC w p l) (hn:l.length<=140737488351232) :
  Calls PG 199 #[.slice p l.length cap,i64 s] w fun e w'=>e = .returned (.bool (l.any fun q=>decide (q=s)))/\w=w':=by
 refine zD 9 [.slice p l.length cap,i64 s] Tryz.func199 ?_;refine cmo (zqC hl hn) ?_;rintro e _ ⟨n,rfl,h,rfl⟩;exact⟨rb h,rfl⟩
abbrev ziT (l:List Nat):List Value:=l.map fun n:Nat=>i64 n
abbrev RowI (Z:Wd) (g:Nat) (l:List Nat):Prop:=Z.heap[g]?=some (.cells (ziT l).toArray 3 (0,0))
theorem zeG:∀ l:List Nat,l.flatMap zC.enc=ziT l
 | []=>rfl
 | a::l=>by
  show i64 a::l.flatMap zC.enc=i64 a::ziT l;rw [zeG l]
theorem zjv:∀ n,zb3 [Value.int IntKind.i64 0] n=ziT (List.replicate n 0)
 | 0=>rfl
 | n+1=>by
  show Value.int IntKind.i64 0::zb3 [Value.int IntKind.i64 0] n=i64 0::ziT (List.replicate n 0);rw [<- zjv n];rfl
theorem RowI.sl {Z:Wd} {g:Nat} {l:List Nat} (h:RowI Z g l):SlR zC Z (some ⟨g,0,none⟩) l :=
 SlR.of_cells (hlt h) (by rw [zeG];exact za h)
theorem znG {α:Type} {f:Nat->α} {n j:Nat} (h:j<n):((List.range j).map f++[f j]) <+: (List.range n).map f:=by
 obtain⟨m,rfl⟩:∃ m,n=(j+1)+m:=⟨n-(j+1),by omega⟩;rw [List.range_add,QT];exact⟨_,by rw [QY,QT];rfl⟩
def StD (pre:List (List Nat)) (vs:List Value) (W:Wd):Prop:=∃ l q,pre.getLast?=some l/\vs=[.slice q l.length l.length]/\SlR zC W q l/\∀ a,q=some a->∃ cur,W.heap[a.block]?=some (.cells cur 3 (0,0))
section
variable {bx:Nat} {sizes:List Nat} {q:OA} {c:Nat} {W0:Wd}
theorem zsu (fx:W0.heap[bx]?=some (.cells #[.slice q sizes.length c] 128 (0,0))) (hl:SlR zC W0 q sizes) (hql:∀ a,q=some a->a.block<W0.heap.size) (hn:sizes.length<=1000) (hm:∀ n∈sizes,n<=1000000) :
  ziH PG 198 [At0 bx] (zbG sizes) W0 (fun k=>k=bx\/∃ a,q=some a/\k=a.block) (fun _=>False) StD:=by
 intro yl F0 J Jx W hsz hrd hrf hJ hJx hy h0;have fxW:=(hrd bx (.inl (.inl rfl))).trans fx;have hlW:SlR zC W q sizes:=qN hl fun a ha=>hrd _ (.inl (.inr ⟨a,ha,rfl⟩));refine zD 43 [.func (.yield yl) #[] #[],At0 bx] Tryz.func198 ?_;refine⟨_,zc (za fxW) (i:=0) rfl,cmo (zk3 (s:=0) hlW (by omega)) ?_⟩;rintro e _ ⟨rfl,rfl⟩;refine biE (fun h=>?_) fun h=>?_
 ·have h:(sizes.any fun q=>decide (q=0))=true:=h;obtain⟨z,hz,hz0⟩:=Ql.1 h;have hz0:z=0:=dT hz0;subst hz0;have hs:zbG sizes=[]:=by unfold zbG;rw [zdY (by simpa using hz)];rfl
  rw [hs];exact⟨⟨_,rfl⟩,.inl ⟨F0,h0⟩⟩
 have h:(sizes.any fun q=>decide (q=0))=false:=h;obtain⟨rs,hrs⟩:=nm (sizes.reverse);have hr0:∀ n∈rs,n≠0:=fun n hn e=>by
  rw [KN] at h;exact h n (by rw [hrs] at hn;simpa using hn) (Ut e)
 have hlen:rs.length=sizes.length:=by rw [hrs,Ki]
 refine⟨_,zc (za fxW) (i:=0) rfl,zir Tryz.underlying128 k3 rfl rfl (by decide) sizes.length (by show 8*_<=_;omega) (by omega) fun X fX hbX sX=>?_⟩;rw [zjv] at fX;obtain⟨D,hD⟩:∃ D:Nat->List Nat,D=fun j=>(zar rs j).reverse:=⟨_,rfl⟩;have hDl:∀ j,(D j).length=sizes.length:=fun j=>by rw [hD];show ((zar rs j).reverse).length=_;rw [Ki,ze0,hlen]
 have hds:zbG sizes=(List.range (qc rs)).map D:=by unfold zbG;rw [hD,hrs]
 have hP:0<qc rs:=zia hr0;have hD0:D 0=List.replicate sizes.length 0:=by
  rw [hD];show (zar rs 0).reverse=_;rw [ziz,List.reverse_replicate,hlen]
 rw [<- hD0] at fX;rw [hds] at hy ⊢;obtain⟨g,hg⟩:=nm (W.heap.size);rw [<- hg] at fX;have hbxW:=hlt fxW;refine⟨Nat×(Nat->Prop),fun s=>⟨[(0,.func (.yield yl) #[] #[]),(1,At0 bx),(3,.slice (some ⟨g,0,none⟩) sizes.length sizes.length)],[]⟩,
  fun s Z=>s.1<qc rs/\J ((List.range s.1).map D) s.2 Z/\RowI Z g (D s.1)/\¬ s.2 g/\W.heap.size<=Z.heap.size/\Z.heap[bx]?=some (.cells #[.slice q sizes.length c] 128 (0,0))/\¬ s.2 bx/\RowF zC W.heap.size s.2 Z q sizes,
  fun s=>qc rs-s.1,(0,F0),⟨.cons rfl (.cons rfl (.cons (by rw [hg];rfl) .nil)),rfl⟩,
  ⟨hP,hJ.step _ _ _ _ h0 (.below hbX),fX,fun h=>by have:=(hJ.lt _ _ _ _ h0 h).1;omega,hbX.size,zb hbX fxW,hrf _ (.inl rfl),⟨hlW.below hbX,fun a ha=>⟨by have:=hql a ha;omega,hrf _ (.inr ⟨a,ha,rfl⟩)⟩⟩⟩,?_⟩
 rintro⟨j,F⟩ Z ⟨hj,hjZ,fZ,hgF,hWZ,fxZ,hbF,hqZ⟩;dsimp only at hj hjZ fZ hgF fxZ hbF hqZ ⊢;have hpre:((List.range j).map D++[D j]) <+: (List.range (qc rs)).map D:=znG hj;refine YieldR.mono (hy _ (D j) [.slice (some ⟨g,0,none⟩) sizes.length sizes.length] F Z hjZ ⟨D j,_,by simp,by rw [hDl j],fZ.sl,fun a ha=>(by cases ha;exact⟨_,fZ⟩)⟩ hpre) ?_;rintro v Y (⟨rfl,F',hjY,kY⟩ | ⟨rfl,F',hjY⟩)
 ·refine brT ?_;have hgZ:=hlt fZ;have fY:RowI Y g (D j):=(kY.same g hgZ hgF).trans fZ;have hgF':¬ F' g:=fun h=>by
   rcases kY.fp g h with h | h
   ·exact hgF h
   ·omega
  have fxY:=(kY.same bx (hlt fxZ) hbF).trans fxZ;have hbF':¬ F' bx:=fun h=>by
   rcases kY.fp bx h with h | h
   ·exact hbF h
   ·have:=hlt fxZ;omega
  have hqY:=hqZ.keep hWZ kY (fun _ _ h=>h);have hWY:=UT hWZ kY.size;have hjY2:J ((List.range (j+1)).map D) F' Y:=by
   rw [QY,QT];exact hjY
  clear hjY hpre fZ fxZ hqZ hjZ hWZ hgZ hgF hbF kY;refine⟨((sizes.length:Nat):Int)-1,zi (by omega),?_⟩;have hgn:W.heap.size<=g:=by omega
  have hbg:bx≠g:=by omega
  refine⟨Nat,fun t=>⟨[(0,.func (.yield yl) #[] #[]),(1,At0 bx),(3,.slice (some ⟨g,0,none⟩) sizes.length sizes.length),(4,i64 (((sizes.length:Nat):Int)-1-(t:Nat)))],[]⟩,
   fun t V=>t<=sizes.length/\zhE rs j t/\RowI V g ((List.replicate t 0++(zar rs j).drop t).reverse)/\J ((List.range (j+1)).map D) F' V/\W.heap.size<=V.heap.size/\V.heap[bx]?=some (.cells #[.slice q sizes.length c] 128 (0,0))/\RowF zC W.heap.size F' V q sizes,fun t=>sizes.length-t,0,
   ⟨.cons rfl (.cons rfl (.cons rfl (.cons (by rw [Int.ofNat_zero,Int.sub_zero];rfl) .nil))),rfl⟩,⟨Ge _,zl7 _ _,by rw [hD] at fY;exact fY,hjY2,hWY,fxY,hqY⟩,?_⟩
  clear fY fxY hqY hjY2 hWY;rintro t V ⟨ht,hc,fV,hjV,hWV,fxV,hqV⟩;dsimp only at ht hc fV hjV ⊢;have hLl:(zar rs j).length=sizes.length:=by rw [ze0,hlen]
  refine DrawE.ord [] [0,1,2,3,4,5,6,7,8,9,10,11,12,13] (by kernel_rfl) (biE (fun hi=>?_) fun hi=>?_)
  ·have hi:(0:Int)<=((sizes.length:Nat):Int)-1-(t:Nat):=dT hi;have htl:t<sizes.length:=by omega
   obtain⟨i,hit⟩:∃ i,i+t+1=sizes.length:=⟨sizes.length-1-t,by omega⟩;have hii:((sizes.length:Nat):Int)-1-(t:Nat)=(i:Nat):=by omega
   rw [hii];obtain⟨d,hd⟩:∃ d,(zar rs j)[t]?=some d:=⟨_,gE (by omega)⟩;obtain⟨n,hn⟩:∃ n,rs[t]?=some n:=⟨_,gE (by omega)⟩;have hil:i<sizes.length:=by omega
   have hsn:sizes[i]=n:=by
    have:=JK (l:=sizes) (i:=t) htl;rw [<- hrs,hn,show sizes.length-1-t=i by omega,gE hil] at this;exact (Ug this).symm
   have hnm:n∈sizes:=by rw [<- hsn];exact gM hil
   have hn1:=hm n hnm;have hn0:n≠0:=hr0 n (by rw [hrs];simpa using hnm);have zb7:=zsY hd (i:=i) (by omega);have hdn:d<n:=by
    obtain⟨A,ns,k,c1,c2,c3,c4,c5⟩:=hc
    cases ns with
    | nil=>rw [c1,QM,JJ (by omega)] at hn;cases hn
    | cons m ns =>
     have hm':m=n:=by
      rw [c1,Jl (by omega),c2,UV] at hn;exact Ug hn
     have:=Gq (fun l=>l[0]?) c4;simp only [Kw,UQ] at this;rw [hd] at this;have:d=k%m:=Ug this;rw [this,hm'];exact Gl _ (by omega)
   have hrl:((List.replicate t 0++(zar rs j).drop t).reverse).length=sizes.length:=by simp;omega
   refine⟨i,rfl,hil,?_⟩;have hrc:(ziT (List.replicate t 0++(zar rs j).drop t).reverse)[i*1]?=some (i64 d):=by
    rw [Gd,KU,zb7];rfl
   refine⟨i64 d,zc (za (hdr fV)) hrc,_,zc (za (hdr fxV)) (i:=0) rfl,?_⟩;obtain⟨bq,oq,hqe,hlq,hatq⟩:=hqV.row.at hil;subst hqe;refine⟨i,rfl,hil,i64 n,by rw [<- hsn];exact zc (zw (Gh _ V).drew (hatq i hil)) (i:=0) rfl,((n:Nat):Int)-1,zi (by omega),biE (fun he=>?_) fun he=>?_⟩
   ·have he:(d:Int)=(n:Int)-1:=dT he;have hrs2:=zmz hd (i:=i) (by omega) 0;refine⟨i,rfl,hil,zu k3 (hdr fV) (o:=0+i*1) (v:=i64 0) rfl rfl (by rw [QQ,hrl];omega) rfl fun V1 fV1 gV1 sV1=>⟨((sizes.length:Nat):Int)-1-((t+1:Nat):Int),(zi (by omega)).trans (by omega),?_⟩⟩;have gV2:V.grownBy V1 (some g):=zg (zh (Gh _ V).drew) gV1;have kV:KeepsG (fun k=>k=g) (fun _=>False) V V1:=⟨gV2.os,gV2.tape,gV2.output,gV2.size,fun k hk hf=>gV2.block k hk (fun e=>hf (by cases e;rfl)),fun k h=>h.elim⟩;have hsV:=gV2.size;refine⟨t+1,(cvE rfl rfl),⟨htl,zl9 hr0 hc hn hd (by omega),?_,hJ.step _ _ _ _ hjV (StepG.grown gV2 (.inl hgn) hgF'),by omega,(gV2.block bx (hlt fxV) (by simpa using hbg)).trans fxV,⟨qN hqV.row fun a ha=>gV2.block _ (by have:=(hqV.out a ha).1;omega) (by have:=(hqV.out a ha).1;simp;omega),hqV.out⟩⟩,zdc (by omega)⟩;show RowI V1 g _;rw [<- zo5,<- hrs2];rw [Gd,UX] at fV1;refine fV1.trans ?_;unfold ziT;rw [UN];rfl
   ·have he:¬ (d:Int)=(n:Int)-1:=dF he;have hstop:=zl8 hr0 hc hn hd (by omega);have hmore:=zma hr0 hc hn hd (by omega) hj;have hrs2:=zmz hd (i:=i) (by omega) (d+1);refine brN (Uj (by omega)) ⟨i,rfl,hil,i64 d,zc (za (hdr fV)) hrc,nxI (by omega) ⟨i,rfl,hil,zu k3 (hdr fV) (o:=0+i*1) (v:=i64 ((d+1:Nat):Int)) rfl rfl (by rw [QQ,hrl];omega) rfl fun V1 fV1 gV1 sV1=>?_⟩⟩;have gV2:V.grownBy V1 (some g):=zg (zh (Gh _ V).drew) gV1;have hsV:=gV2.size;refine⟨(j+1,F'),(cvE rfl rfl),⟨hmore,hJ.step _ _ _ _ hjV (StepG.grown gV2 (.inl hgn) hgF'),?_,hgF',by omega,(gV2.block bx (hlt fxV) (by simpa using hbg)).trans fxV,hbF',⟨qN hqV.row fun a ha=>gV2.block _ (by have:=(hqV.out a ha).1;omega) (by have:=(hqV.out a ha).1;simp;omega),hqV.out⟩⟩,zdc (by omega)⟩;show RowI V1 g (D (j+1));rw [hD];show RowI V1 g (zar rs (j+1)).reverse;rw [hstop,<- hrs2];rw [Gd,UX] at fV1;refine fV1.trans ?_;unfold ziT;rw [UN]
  ·have hi:¬ (0:Int)<=((sizes.length:Nat):Int)-1-(t:Nat):=dF hi;have hte:t=rs.length:=by omega
   rw [hte] at hc;have he:=zok hc hj;refine brF (brE (Ut (by omega)) ?_);rw [he] at hjV;exact⟨⟨_,rfl⟩,.inl ⟨F',hJ.step _ _ _ _ hjV (.below (Gh _ V).drew)⟩⟩
 ·exact brF ⟨⟨_,rfl⟩,.inr ⟨_,F',hpre,hjY⟩⟩
end
def poG (ev:List Ev) (k:Nat):Nat->Nat:=fun i=>if i<k then zcR ev i else 0
theorem zmD (ev:List Ev) (k:Nat):upd (poG ev k) k (zcR ev k)=poG ev (k+1):=by
 funext i;unfold upd poG;by_cases h:i=k
 ·rw [Gx h,Gx (by omega),h]
 ·rw [Gw h];by_cases h2:i<k
  ·rw [Gx h2,Gx (by omega)]
  ·rw [Gw h2,Gw (by omega)]
theorem zj6 (ev:List Ev) (k:Nat):upd (poG ev k) k 0=poG ev k:=by
 funext i;unfold upd poG;by_cases h:i=k
 ·rw [Gx h,Gw (by omega)]
 ·rw [Gw h]
theorem zq6 (ev:List Ev):poG ev ev.length=zcR ev:=by
 funext i;unfold poG
 split
 ·rfl
 ·unfold zcR;rw [JJ (by omega)]
section
variable {p:OA} {cap:Nat} {ev:List Ev} {w:Wd}
theorem zc5 (hl:SlR evE w p ev) (hn:ev.length<=48):CB 41 #[.slice p ev.length cap] w (.agg (ze (poR ev)).toArray):=by
 refine z6 47 [.slice p ev.length cap] (.s .p (.c .p .p)) Tryz.func41 ?_;obtain⟨L,hL⟩:=nm (w.heap.size);have hbL:=zA w (.cells (ze zB).toArray 30 (0,0));have hbb:Bw w (w.alloc (.cells (ze zB).toArray 30 (0,0))):=zba w _;have hbs:=wz w (.cells (ze zB).toArray 30 (0,0));refine⟨Unit,fun _=>⟨[(0,.slice p ev.length cap),(2,At0 L),(3,At0 (L+1))],[]⟩,fun _ X=>qj X L zB/\qj X (L+1) ⟨ev.length,fun _=>0⟩/\X.heap.size=L+2/\Bw w X,?_,?_⟩
 ·refine⟨ze ⟨ev.length,fun _=>0⟩,rfl,zk (X:=w.alloc (.cells (ze zB).toArray 30 (0,0))) (v := .agg (ze ⟨ev.length,fun _=>0⟩).toArray) k30 (zf _) rfl (zK _) fun V hbV fV sV=>?_⟩;rw [hbs] at fV sV;exact⟨(),⟨.cons rfl (.cons (by rw [hL];rfl) (.cons (by rw [hL,<- hbs];rfl) .nil)),rfl⟩,by rw [hL];exact zb hbV hbL,by rw [hL];exact fV,by rw [hL];exact sV,(zst hbb hbV)⟩
 rintro _ X ⟨f0,f1,sX,hbX⟩;refine⟨Nat,fun k=>⟨[(0,.slice p ev.length cap),(2,At0 L),(3,At0 (L+1)),(10,.slice p ev.length cap),(11,i64 ev.length),(12,i64 (k:Nat))],[]⟩,
  fun k V=>k<=ev.length/\qj V (L+1) ⟨ev.length,poG ev k⟩/\qj V L zB/\L+1<V.heap.size/\Bw w V,fun k=>ev.length-k,0,
  (cvE rfl rfl),⟨Ge _,f1,f0,by omega,hbX⟩,?_⟩
 rintro k V ⟨hk,fV,f0V,sV,hbV⟩;dsimp only at hk fV ⊢;refine biE (fun hc=>?_) fun hc=>?_
 ·have hc:(k:Int)<(ev.length:Int):=dT hc;have hkl:k<ev.length:=by omega
  obtain⟨e,he⟩:∃ e,ev[k]=e:=⟨_,rfl⟩;have hek:ev[k]?=some e:=by rw [<- he];exact gE hkl
  obtain⟨bp,op,rfl,hlp,hat⟩:=hl.at hkl;refine⟨k,rfl,hkl,evE.enc e,rfl,by rw [<- he];exact zw hbV (hat k hkl),nL hlp hbV.size,zk (X:=V) (v := .agg (evE.enc e).toArray) zd3 rfl rfl (Qk.2 fun u hu=>evE.one e u hu) fun Y hbY fY sY=>?_⟩;obtain⟨b,hb⟩:=nm (V.heap.size);rw [<- hb] at fY;have eb:some (Value.pointer (some ⟨V.heap.size,0,none⟩))=some (At0 b):=by rw [hb]
  have hwY:=zst hbV hbY;have hMb:L+1<b:=by omega
  have fYM:=zb hbY fV;have fYL:=zb hbY f0V;refine⟨i64 e.th,by rw [<- hb];exact zc (za fY) (i:=0) rfl,biE (fun h=>?_) fun h=>?_⟩
  ·have h:e.th = -1:=dT h;have hr:zcR ev k=0:=by
    unfold zcR;rw [hek];exact Gx h
   refine nxI (by omega) ⟨k+1,(cvE rfl rfl),⟨hkl,?_,fYL,by omega,hwY⟩,zdc (by omega)⟩;rw [<- zmD,hr,zj6];exact fYM
  have h:¬ e.th = -1:=dF h;have hr:zcR ev k=zj7 e.th (k+1) (ev.drop (k+1)) 0:=by
   unfold zcR;rw [hek];exact Gw h
  refine nxI (by omega) ?_;refine⟨Nat×Nat,fun s=>⟨[(0,.slice (some ⟨bp,op,none⟩) ev.length cap),(2,At0 L),(3,At0 (L+1)),(4,i64 (k:Nat)),(5,At0 b),(6,i64 (s.1:Nat)),(10,.slice (some ⟨bp,op,none⟩) ev.length cap),(11,i64 ev.length),(12,i64 (k:Nat))],[]⟩,
   fun s Z=>s.1<=ev.length/\zcR ev k=zj7 e.th s.1 (ev.drop s.1) s.2/\s.2<2^64/\qj Z (L+1) ⟨ev.length,upd (poG ev k) k s.2⟩/\qj Z L zB/\Z.heap[b]?=some (.cells (evE.enc e).toArray 158 (0,0))/\Bw w Z,fun s=>ev.length-s.1,(k+1,0),
   ⟨.cons rfl (.cons rfl (.cons rfl (.cons rfl (.cons eb (.cons rfl (.cons rfl (.cons rfl (.cons rfl .nil)))))))),rfl⟩,⟨hkl,hr,(by decide:0<2^64),by rw [zj6];exact fYM,fYL,fY,hwY⟩,?_⟩
  clear fY fYM fYL hwY hbY sY f0V fV hbV sV;rintro⟨j,s⟩ Z ⟨hj,hacc,hs,fM,fL,fb,hbZ⟩;dsimp only at hj hacc hs fM ⊢;refine biE (fun hc=>?_) fun hc=>?_
  ·have hc:(j:Int)<(ev.length:Int):=dT hc;have hjl:j<ev.length:=by omega
   have hdrop:ev.drop j=ev[j]::ev.drop (j+1):=(JD hjl).symm;rw [hdrop] at hacc;have hacc:zcR ev k=zj7 e.th (j+1) (ev.drop (j+1)) (if ev[j].th=e.th then s|||2^j else s):=hacc;refine DrawE.ord [] [0,1,2,3,4,5,6,7] (by kernel_rfl) ⟨j,rfl,hjl,i64 ev[j].th,zc (zw hbZ (hat j hjl)) (i:=0) rfl,i64 e.th,zc (za (hdr fb)) (i:=0) rfl,?_⟩;have hslot:(ze ⟨(ev.length:Int),upd (poG ev k) k s⟩)[1+k]?=some (s64 s):=by
    have:=zga ⟨(ev.length:Int),upd (poG ev k) k s⟩ (i:=k) (by omega);rw [this];show some (s64 (upd (poG ev k) k s k))=_;rw [qZ]
   have hdZ:Bw Z Z.drew:=(Gh _ Z).drew;refine biE (fun he=>?_) fun he=>?_
   ·have he:ev[j].th=e.th:=dT he;rw [Gx he] at hacc;refine DrawE.ord [9] [0,1,2,3,4,5,6,7,8,9] (by kernel_rfl) ⟨k,rfl,by omega,?_⟩;refine⟨s64 s,by rw [Gd,UH];exact zc (za (hdr (hdr fM))) hslot,by omega,_,jU (e:=j) (by omega),_,zao hs (zZ (by omega)),k,rfl,by omega,?_⟩;refine zu k27 (hdr (hdr fM)) (o:=0+1+k*1) (v:=s64 (s|||2^j)) rfl rfl (by rw [zf];omega) rfl fun S fS gS sS=>?_;rw [UX,Gd,zex _ (show k<48 by omega)] at fS;have gS2:Z.grownBy S (some (L+1)):=zg (zh (Gh _ Z).drew) (zg (zh (Gh _ _).drew) gS);refine nxI (by omega) ⟨(j+1,s|||2^j),(cvE rfl rfl),⟨hjl,hacc,KY hs (zZ (by omega)),?_,(gS2.block L (hlt fL) (by simp)).trans fL,(gS2.block b (hlt fb) (by simp;omega)).trans fb,hbZ.trans (zm gS2 hbZ.size (by omega))⟩,zdc (by omega)⟩;have:upd (upd (poG ev k) k s) k (s|||2^j)=upd (poG ev k) k (s|||2^j):=by
     funext i;unfold upd
     split <;> rfl
    rw [this] at fS;exact fS
   ·have he:¬ ev[j].th=e.th:=dF he;rw [Gw he] at hacc;exact nxI (by omega) ⟨(j+1,s),(cvE rfl rfl),⟨hjl,hacc,hs,fM,fL,fb,(zst hbZ hdZ)⟩,zdc (by omega)⟩
  ·have hc:¬ (j:Int)<(ev.length:Int):=dF hc;have:j=ev.length:=by omega
   subst this;rw [Qn] at hacc;have hacc:zcR ev k=s:=hacc;refine nxI (by omega) ⟨k+1,(cvE rfl rfl),⟨hkl,?_,fL,hlt fM,hbZ⟩,zdc (by omega)⟩;rw [<- zmD,hacc];exact fM
 ·have hc:¬ (k:Int)<(ev.length:Int):=dF hc;obtain rfl:k=ev.length:=by omega
  rw [zq6] at fV;exact⟨ze (poR ev),zf _,za fV,hlt fV,zy (v := .agg (ze (poR ev)).toArray) k30 f0V rfl rfl (zK _) ⟨ze (poR ev),zf _,za (zq f0V),rfl,zl hbV (by omega) _⟩⟩
end
def zed:UInt8->List UInt8->List UInt8
 | _,[]=>[]
 | p,y::r=>if y=p then zed p r else y::zed y r
def ded:List UInt8->List UInt8
 | []=>[]
 | x::r=>x::zed x r
theorem zfx:∀ (A:List UInt8) (p x:UInt8),zed p (A++[x])=if x=(p::A).getLast (by simp) then zed p A else zed p A++[x]
 | [],p,x=>by
  show (if x=p then [] else [x])=_;rfl
 | y::A,p,x=>by
  show (if y=p then zed p (A++[x]) else y::zed y (A++[x]))=_;have hl:(p::y::A).getLast (by simp)=(y::A).getLast (by simp):=List.getLast_cons (by simp);rw [hl];show _=if x=(y::A).getLast _ then (if y=p then zed p A else y::zed y A) else (if y=p then zed p A else y::zed y A)++[x]
  by_cases h:y=p
  ·subst h;rw [Gx rfl,Gx rfl,zfx A y x]
  ·rw [Gw h,Gw h,zfx A y x]
   split <;> rfl
theorem zp9 {A:List UInt8} (h:A≠[]) (x:UInt8):ded (A++[x])=if x=A.getLast h then ded A else ded A++[x]:=by
 cases A with
 | nil=>exact Gy rfl h
 | cons y A =>
  show y::zed y (A++[x])=_;rw [zfx];show _=if x=(y::A).getLast h then y::zed y A else y::zed y A++[x]
  split <;> rfl
theorem zkK {l:List UInt8} {i:Nat} (h0:0<i) (hi:i<l.length):ded (l.take (i+1))=if l[i]=l[i-1] then ded (l.take i) else ded (l.take i)++[l[i]]:=by
 rw [tsg hi];have hne:l.take i≠[]:=by
  intro e;have:=Gq List.length e;rw [Qv,QR] at this;omega
 rw [zp9 hne];have:(l.take i).getLast hne=l[i-1]:=by
  have hlen:(l.take i).length-1=i-1:=by rw [Qv];omega
  simp only [List.getLast_eq_getElem,List.getElem_take,hlen]
 rw [this]
section
variable {B g cap:Nat} {l:List UInt8} {w:Wd}
theorem ze3 {X:Wd} {sp:List Value} {M:List UInt8} (h:RowS zO 5 X g sp M) {i:Nat} (hi:i<M.length):X.cell? ⟨g,0+i*1,none⟩=some (u8 M[i]):=by
 have:=zc (h.at hi) (i:=0) (v:=u8 M[i]) rfl;exact this
theorem zkT {M:List UInt8} {i:Nat} {x:UInt8} (h:M[i]?=some x):∃ hi:i<M.length,M[i]=x:=by
 obtain⟨hi,e⟩:=Jq.1 h;exact⟨hi,e⟩
theorem zmk (ho:OwnS zO 5 B w (some ⟨g,0,none⟩) cap l) (hn:l.length<=1000000) :
  Calls PG 194 #[.slice (some ⟨g,0,none⟩) l.length cap] w fun e w'=>e = .returned (.slice (some ⟨g,0,none⟩) (ded l).length cap)/\OwnS zO 5 B w' (some ⟨g,0,none⟩) cap (ded l)/\w.grownBy w' (some g):=by
 refine zD 61 [.slice (some ⟨g,0,none⟩) l.length cap] Tryz.func194 ?_;rcases ho.inv with ⟨h,_⟩ | ⟨g',cur,hg,hB,hcur,hlc,hcm,hcs,hct⟩
 ·cases h
 simp only [KZ,Uv,Gp] at hg;subst hg;have hcs:cur.size=cap:=by rw [hcs];exact Gd _
 obtain⟨sp,hsp⟩:=nm (cur.toList.drop l.length);have hct:cur.toList.take l.length=l.flatMap zO.enc:=by rw [<- hct];congr 1;exact (Gd _).symm
 have hR:RowS zO 5 w g sp l:=by
  unfold RowS;rw [hcur,<- hct,hsp,JQ]
 have hspl:l.length+sp.length=cap:=by
  have h1:cur.toList.length=cap:=by rw [Array.length_toList];exact hcs
  rw [hsp,Qu,h1];omega
 refine biE (fun h=>?_) fun h=>?_
 ·have h:(l.length:Int)<2:=dT h;have e:ded l=l:=by
   match l,h with
   | [],_=>rfl
   | [x],_=>rfl
   | x::y::r,h=>simp at h;omega
  rw [e];exact⟨rfl,ho,jF w _⟩
 have h:¬ (l.length:Int)<2:=dF h;have hl2:2<=l.length:=by omega
 refine⟨Nat,fun k=>⟨[(0,.slice (some ⟨g,0,none⟩) l.length cap),(3,i64 (k:Nat))],[]⟩,fun k X=>1<=k/\k<=l.length/\ded (l.take k)=l.take k/\RowS zO 5 X g sp l/\w.grownBy X (some g),fun k=>l.length-k,1,
  (cvE rfl rfl),⟨Gc _,by omega,by
   cases l with
   | nil=>rfl
   | cons x r=>rfl,hR,jF w _⟩,?_⟩
 rintro k X ⟨hk1,hkl,hdk,hRX,gX⟩;refine biE (fun hc=>?_) fun hc=>?_
 ·have hc:(k:Int)<(l.length:Int):=dT hc;have hk:k<l.length:=by omega
  refine DrawE.ord [] [0,1,2,3,4,5,6,7,8,9] (by kernel_rfl) ?_;have hRd:RowS zO 5 X.drew g sp l:=hRX;have gd:w.grownBy X.drew (some g):=zg gX ⟨rfl,rfl,rfl,Gc _,fun _ _ _=>rfl⟩;refine⟨k,rfl,hk,_,ze3 hRd hk,((k-1:Nat):Int),(zi (by omega)).trans (by omega),k-1,rfl,by omega,?_⟩;refine⟨_,ze3 hRd (by omega),?_⟩;have hnx:=zkK (l:=l) hk1 hk;refine biE (fun he=>?_) fun he=>?_
  ·have he:l[k]=l[k-1]:=qV.1 (dT he);rw [Gx he] at hnx;refine⟨k,rfl,by show k<=l.length;omega,?_⟩;have hcb:qS (some ⟨g,0,none⟩) cap k 1=some ⟨g,k,none⟩:=by
    unfold qS;rw [Gw (by omega)];show some ((⟨g,0,none⟩:Addr).add (k*1))=_;rw [zbf,Gd,UX]
   refine⟨Nat×Nat×List UInt8,fun s=>⟨[(0,.slice (some ⟨g,0,none⟩) l.length cap),(3,i64 (s.2.1:Nat)),(4,.slice (some ⟨g,k,none⟩) (l.length-k) (cap-k)),(5,i64 (s.1:Nat))],[]⟩,
    fun s Y=>(1<=s.1/\k+s.1<=l.length)/\(s.2.1=(ded (l.take (k+s.1))).length/\s.2.1+1<=k+s.1)/\(s.2.2.length=l.length/\s.2.2.take s.2.1=ded (l.take (k+s.1))/\∀ j,s.2.1<=j->s.2.2[j]?=l[j]?)/\RowS zO 5 Y g sp s.2.2/\w.grownBy Y (some g),fun s=>l.length-s.1,(1,k,l),
    ⟨.cons rfl (.cons rfl (.cons (by rw [<- hcb];rfl) (.cons rfl .nil))),rfl⟩,⟨⟨Gc _,by show k+1<=_;omega⟩,⟨by show k=_;rw [hnx,hdk,Qv];omega,Gc _⟩,⟨rfl,by show l.take k=_;rw [hnx,hdk],fun j _=>rfl⟩,hRd,gd⟩,?_⟩
   rintro⟨m,q,M⟩ Y ⟨⟨hm1,hml⟩,⟨hq,hqm⟩,⟨hM,hMt,hMj⟩,hRY,gY⟩;dsimp only at hm1 hml hq hqm hM hMt hMj hRY ⊢;refine biE (fun hc=>?_) fun hc=>?_
   ·have hc:(m:Int)<((l.length-k:Nat):Int):=dT hc;have hi:k+m<l.length:=(by omega);have g1:M[k+m]?=some l[k+m]:=(by rw [hMj _ (by omega),gE hi]);have g0:M[k+m-1]?=some l[k+m-1]:=(by rw [hMj _ (by omega),gE (by omega)]);obtain⟨i1,e1⟩:=zkT g1;obtain⟨i0,e0⟩:=zkT g0;have nx:=zkK (l:=l) (i:=k+m) (by omega) hi;refine DrawE.ord [] [0,1,2,3,4,5,6,7,8,9] (by kernel_rfl) ?_;have hRYd:RowS zO 5 Y.drew g sp M:=hRY;have gYd:w.grownBy Y.drew (some g):=zg gY ⟨rfl,rfl,rfl,Gc _,fun _ _ _=>rfl⟩;have a1:Y.drew.cell? ⟨g,k+m*1,none⟩=some (u8 l[k+m]):=by
     have:=ze3 hRYd i1;rw [e1,Gd,UX] at this;rw [Gd];exact this
    have a0:Y.drew.cell? ⟨g,k+(m-1)*1,none⟩=some (u8 l[k+m-1]):=by
     have:=ze3 hRYd i0;rw [e0,Gd,UX] at this;rw [Gd,<- Nat.add_sub_assoc hm1];exact this
    refine⟨m,rfl,by omega,?_⟩;refine⟨_,a1,((m-1:Nat):Int),(zi (by omega)).trans (by omega),m-1,rfl,by omega,?_⟩;refine⟨_,a0,biE (fun hne=>?_) fun hne=>?_⟩
    ·have hne:¬ l[k+m]=l[k+m-1]:=fun e=>by
      have hne:(!decide (((l[k+m]).toNat:Int)=((l[k+m-1]).toNat:Int)))=true:=hne;rw [e,Ut rfl] at hne;cases hne
     rw [Gw hne] at nx;refine⟨m,rfl,by omega,?_⟩;refine⟨_,a1,q,rfl,by omega,?_⟩;refine znn k5 rfl hRYd (i:=q) (by omega) l[k+m] fun Z hRZ gZ sZ=>nxI (by omega) (nxI (by omega) ⟨(m+1,q+1,M.set q l[k+m]),(cvE rfl rfl),⟨⟨by omega,by show k+(m+1)<=_;omega⟩,⟨?_,by show q+1+1<=k+(m+1);omega⟩,⟨by rw [QS];exact hM,?_,fun j hj=>?_⟩,hRZ,zg gYd gZ⟩,zdc (by omega)⟩)
     ·show q+1=(ded (l.take (k+(m+1)))).length;rw [<- UH,nx,lap,<- hq];rfl
     ·show (M.set q l[k+m]).take (q+1)=ded (l.take (k+(m+1)));rw [<- UH,nx,<- hMt];rw [tsg (by rw [QS];omega),List.take_set_of_le (Gc _),List.getElem_set_self]
     ·show (M.set q l[k+m])[j]?=l[j]?;have hj:q+1<=j:=hj;rw [JV (by omega)];exact hMj j (by omega)
    ·have heq:l[k+m]=l[k+m-1]:=by
      have hne:(!decide (((l[k+m]).toNat:Int)=((l[k+m-1]).toNat:Int)))=false:=hne;have h2:decide (((l[k+m]).toNat:Int)=((l[k+m-1]).toNat:Int))=true:=(by simpa using hne);exact qV.1 (dT h2)
     rw [Gx heq] at nx;exact nxI (by omega) ⟨(m+1,q,M),(cvE rfl rfl),⟨⟨by omega,by show k+(m+1)<=_;omega⟩,⟨by show q=(ded (l.take (k+(m+1)))).length;rw [<- UH,nx];exact hq,by show q+1<=k+(m+1);omega⟩,⟨hM,by show M.take q=ded (l.take (k+(m+1)));rw [<- UH,nx];exact hMt,hMj⟩,hRYd,gYd⟩,zdc (by omega)⟩
   ·have hc:¬ (m:Int)<((l.length-k:Nat):Int):=dF hc;have hkm:k+m=l.length:=(by omega);rw [hkm,Qx] at hq hMt;refine⟨q,rfl,by show q<=l.length;omega,?_⟩;have hcb2:qS (some ⟨g,0,none⟩) cap q 1=some ⟨g,q,none⟩:=by
     unfold qS;rw [Gw (by omega)];show some ((⟨g,0,none⟩:Addr).add (q*1))=_;rw [zbf,Gd,UX]
    have hfl:(M.flatMap zO.enc++sp).length=cap:=by
     rw [lap,qC,hM];show l.length*1+_=_;omega
    have hcl:SatR ((Builtin.clear_ #[72] 0 #[.slice (some ⟨g,q,none⟩) (l.length-q) (cap-q)]).run PG Y) fun _ Z=>Z.heap[g]?=some (.cells ((M.flatMap zO.enc++sp).take q++List.replicate (l.length-q) (u8 0)++(M.flatMap zO.enc++sp).drop (q+(l.length-q))).toArray 5 (0,0))/\Y.grownBy Z (some g) :=
     zoe Tryz.underlying72 k5 rfl rfl (by omega) hRY (by show q+(l.length-q)<=(M.flatMap zO.enc++sp).length;rw [hfl];omega) fun Z fZ gZ sZ=>⟨fZ,gZ⟩
    obtain⟨v,Z,hrun,fZ,gZ⟩:=hcl;refine⟨v,Z,by rw [hcb2];exact hrun,?_⟩;refine⟨q,rfl,by show q<=cap;omega,?_⟩;rw [<- hq];refine⟨by show Ending.returned (Value.slice (qS (some ⟨g,0,none⟩) cap 0 1) (q-0) (cap-0))=_;rw [zcH];rfl,?_,zg gY gZ⟩;unfold OwnS World.ownsRow;refine⟨by rw [qC],.inr ⟨g,cap,_,rfl,hB,fZ,by omega,hcm,?_,?_⟩⟩
    ·show (List.length _)=cap*1;rw [lap,lap,Qv,JM,Qu,hfl];omega
    ·rw [<- hq];show ((M.flatMap zO.enc++sp).take q++List.replicate (l.length-q) (u8 0)++(M.flatMap zO.enc++sp).drop (q+(l.length-q))).take (q*1)=_;rw [Gd,KO,Jg (by rw [Qv,hfl];omega),List.take_take,Nat.min_self,Jg (by rw [qC,hM];show q<=l.length*1;omega),<- hMt];have:=JQ q M;have e2:M.flatMap zO.enc=(M.take q).flatMap zO.enc++(M.drop q).flatMap zO.enc:=(by rw [<- Kf,JQ]);rw [e2,QZ (by rw [qC,Qv];show min q M.length*1=q;omega)]
  ·have he:¬ l[k]=l[k-1]:=fun e=>(dF he) (by rw [e]);rw [Gw he,hdk] at hnx;exact nxI (by omega) ⟨k+1,(cvE rfl rfl),⟨by omega,hk,by rw [hnx,tsg hk],hRd,gd⟩,zdc (by omega)⟩
 ·have hc:¬ (k:Int)<(l.length:Int):=dF hc;obtain rfl:k=l.length:=by omega
  rw [Qx] at hdk;rw [hdk];refine⟨rfl,?_,gX⟩;unfold OwnS World.ownsRow;refine⟨by rw [qC],.inr ⟨g,cap,_,rfl,hB,hRX,by omega,hcm,?_,?_⟩⟩
  ·show (l.flatMap zO.enc++sp).length=cap*1;rw [lap,qC];show l.length*1+_=_;omega
  ·exact QZ (qC l)
end
def prE:Enc (Nat×Nat):=⟨fun x=>[u8 (UInt8.ofNat x.1),u8 (UInt8.ofNat x.2)],2,fun _=>rfl,by decide,fun a u hu=>by
 simp only [UF,Qw,Gs] at hu;rcases hu with rfl | rfl <;> rfl⟩
def zgx:Enc Nat:=⟨fun x=>[s32 x],1,fun _=>rfl,by decide,fun a u hu=>by
 simp only [UF,Qw,Gs] at hu;subst hu;rfl⟩
theorem zsO {s:Nat} {w:Wd} (hT:Tz32M w) (h0:s≠0) (h:s<2^32):Calls PG 267 #[s32 s] w fun e w'=>e = .returned (i64 (ctz s:Nat))/\w=w':=by
 refine zD 14 [s32 s] Tryz.func267 ?_;obtain⟨h2,h3⟩:=zhp h0 h;obtain⟨t1,t2⟩:=zoB h3;refine brN (Uj (fun e=>h0 (by omega))) ⟨((2^32-s:Nat):Int),by unfold IntKind.wrap;simp only [IntKind.bits,IntKind.signed,Ul,Kt,Gr];omega,?_⟩;refine⟨((2^ctz s:Nat):Int),(zmp (a:=s) (b:=2^32-s) h (by omega)).trans (by rw [h2]),?_⟩;refine⟨((2^ctz s*125613361%4294967296:Nat):Int),by
  have e:(((2^ctz s:Nat):Int)*125613361)=((2^ctz s*125613361:Nat):Int):=by rw [QK];rfl
  rw [e];generalize 2^ctz s*125613361=n;unfold IntKind.wrap;simp only [IntKind.bits,IntKind.signed,Ul,Kt,Gr];omega,?_⟩
 refine⟨by decide,((2^ctz s*125613361%4294967296/2^27:Nat):Int),by
  generalize 2^ctz s*125613361%4294967296=n;show (n:Int).fdiv (2^(min (Int.toNat (27:Int)) IntKind.u32.bits))=_;rw [show min (Int.toNat (27:Int)) IntKind.u32.bits=27 from rfl,Int.fdiv_eq_ediv_of_nonneg _ (by decide)];omega,?_⟩
 refine⟨_,rfl,t1,?_⟩;have hv:(zhV.map u8)[2^ctz s*125613361%4294967296/2^27]?=some (u8 (UInt8.ofNat (ctz s))):=by rw [KU,t2];rfl
 refine⟨u8 (UInt8.ofNat (ctz s)),by rw [Gd];exact zc hT hv,?_⟩;have e:(UInt8.ofNat (ctz s)).toNat=ctz s:=by rw [KH];omega
 exact⟨(ctz s:Int),by rw [e];exact zi (by omega),rfl,rfl⟩
def jQ:Nat->List Nat->List (Nat×Nat)
 | _,[]=>[]
 | i,s::r=>(els s).map (fun a=>(a,i))++jQ (i+1) r
theorem zgH (f:Nat->Nat):∀ (n i:Nat),jQ i ((List.range' i n).map f)=(List.range' i n).flatMap fun i=>(els (f i)).map fun a=>(a,i)
 | 0,i=>rfl
 | n+1,i=>by
  rw [List.range'_succ,UE,KS];show (els (f i)).map _++jQ (i+1) _=_;rw [zgH f n (i+1)]
theorem zfj (f:Nat->Nat) (n:Nat):jQ 0 ((List.range n).map f)=zgG f n:=by
 unfold zgG;rw [List.range_eq_range'];exact zgH f n 0
theorem zlw (l:List Nat) (x:Nat):∀ i,jQ i (l++[x])=jQ i l++(els x).map (fun a=>(a,i+l.length)):=by
 induction l with
 | nil=>intro i;show (els x).map _++[]=_;rw [QM];rfl
 | cons y r ih =>
  intro i;show (els y).map _++jQ (i+1) (r++[x])=((els y).map _++jQ (i+1) r)++_;rw [ih,KO,Qt];congr 3;funext a;congr 1;omega
theorem zie:∀ (l:List Nat) (i:Nat),(jQ i l).length<=64*l.length
 | [],_=>Ge _
 | x::r,i=>by
  show ((els x).map _++jQ (i+1) r).length<=_;rw [lap,QQ,Qt];have h1:=zie r (i+1);have h2:=zeY x;omega
section
variable {p:OA} {cap:Nat} {l:List Nat} {w:Wd}
theorem ziY (hl:SlR zgx w p l) (hn:l.length<=24) (hb:∀ x∈l,x<2^32) (hT:Tz32M w) :
  Calls PG 230 #[.slice p l.length cap] w fun e w'=>(∃ q c,e = .returned (.slice q (jQ 0 l).length c)/\OwnS prE 326 w.heap.size w' q c (jQ 0 l))/\Bw w w':=by
 refine zD 30 [.slice p l.length cap] Tryz.func230 ?_;refine⟨Nat×OA×Nat,fun s=>⟨[(3,.slice s.2.1 (jQ 0 (l.take s.1)).length s.2.2),(6,.slice p l.length cap),(7,i64 l.length),(8,i64 (s.1:Nat))],[]⟩,
  fun s X=>s.1<=l.length/\OwnS prE 326 w.heap.size X s.2.1 s.2.2 (jQ 0 (l.take s.1))/\Bw w X,fun s=>l.length-s.1,(0,none,0),
  (cvE rfl rfl),⟨Ge _,OwnS.nil,Gh _ _⟩,?_⟩
 rintro⟨k,q,c⟩ X ⟨hk,ho,hbX⟩;dsimp only at hk ho ⊢;refine biE (fun hc=>?_) fun hc=>?_
 ·have hc:(k:Int)<(l.length:Int):=dT hc;have hkl:k<l.length:=by omega
  obtain⟨b,o,hp,hlt',hat⟩:=(hl.below hbX).at hkl;have ep:some (Value.slice p l.length cap)=some (Value.slice (some ⟨b,o,none⟩) l.length cap):=by rw [hp]
  subst hp;refine⟨k,rfl,hkl,s32 l[k],by have:=zc (hat k hkl) (i:=0) (v:=s32 l[k]) rfl;exact this,?_⟩;have hlk:=hb _ (gM hkl);have htl:(l.take k).length=k:=by rw [Qv];omega
  have hpl:=zie (l.take k) 0;have tk:l.take (k+1)=l.take k++[l[k]]:=tsg hkl;refine⟨Nat×List (Nat×Nat)×OA×Nat,fun s=>⟨[(3,.slice s.2.2.1 s.2.1.length s.2.2.2),(4,i64 (k:Nat)),(5,s32 s.1),(6,.slice (some ⟨b,o,none⟩) l.length cap),(7,i64 l.length),(8,i64 (k:Nat))],[]⟩,
   fun s Y=>(jQ 0 (l.take (k+1))=s.2.1++(els s.1).map (fun a=>(a,k))/\s.1<2^32/\s.2.1.length+(els s.1).length<=64*(k+1))/\OwnS prE 326 w.heap.size Y s.2.2.1 s.2.2.2 s.2.1/\Bw w Y,fun s=>s.1,(l[k],jQ 0 (l.take k),q,c),
   (cvE rfl rfl),⟨⟨by rw [tk,zlw,htl,UX],hlk,by have:=zeY l[k];show (jQ 0 (l.take k)).length+(els l[k]).length<=_;omega⟩,ho,hbX⟩,?_⟩
  rintro⟨s,m,q,c⟩ Y ⟨⟨he,hs,hlen⟩,ho,hbY⟩;dsimp only at he hs hlen ho ⊢;refine biE (fun hc=>?_) fun hc=>?_
  ·have hc:(!decide ((s:Int)=0))=true:=hc;have h0:s≠0:=fun e=>by
    subst e;exact Gy hc (by decide)
   have hs64:s<2^64:=nL hs (by decide);obtain⟨e1,e2,_,_⟩:=ju h0 hs64;obtain⟨_,hc32⟩:=zhp h0 hs;rw [e1] at hlen;refine cmo (zsO (hT.below hbY) h0 hs) ?_;rintro e _ ⟨rfl,rfl⟩;refine⟨_,w8N _,_,w8N _,prE.enc (ctz s,k),rfl,⟨by decide,by decide,rfl⟩,prE.enc (ctz s,k),zbc rfl rfl,?_⟩;have hba:Bw Y (Y.alloc (.cells (prE.enc (ctz s,k)).toArray 326)):=zba _ _;simp only [Qt] at hlen;refine ji (E:=prE) (T:=326) (B:=w.heap.size) (l:=m) (news:=[(ctz s,k)]) (cap:=c) (m:=1) Tryz.underlying239 zu2 rfl rfl rfl (ho.below hba) rfl (qF prE (ctz s,k)) (by have:=hbY.size;have:=hba.size;omega) (by omega) (by show (m.length+1)*2<=_;omega) ?_;intro p2 c2 Z oZ gZ hbZ hat2;refine⟨((s-1:Nat):Int),(w32 (a:=(s:Int)-1) (by omega)).trans (by omega),((qB s:Nat):Int),zmp (a:=s) (b:=s-1) hs (by omega),(qB s,m++[(ctz s,k)],p2,c2),(cvE rfl rfl),⟨⟨?_,by show qB s<_;omega,?_⟩,oZ,((zst hbY hba)).trans hbZ⟩,e2⟩
   ·rw [he,e1,UE,KO];rfl
   ·simp only [lap,Qt,QR];omega
  ·have hc:(!decide ((s:Int)=0))=false:=hc;have h0:s=0:=by
    have h1:decide ((s:Int)=0)=true:=(by simpa using hc);exact UB (dT h1)
   subst h0;rw [zbF,UM,QM] at he;exact nxI (by omega) ⟨(k+1,q,c),⟨.cons (by rw [he];rfl) (.cons rfl (.cons rfl (.cons rfl .nil))),rfl⟩,⟨hkl,by show OwnS prE _ _ _ _ _ (jQ 0 (l.take (k+1)));rw [he];exact ho,hbY⟩,zdc (by omega)⟩
 ·have hc:¬ (k:Int)<(l.length:Int):=dF hc;obtain rfl:k=l.length:=by omega
  rw [Qx] at ho;refine⟨⟨q,c,by rw [Qx];rfl,ho⟩,hbX⟩
theorem ziI {p:OA} {cap:Nat} {l:List Ev} {w:Wd} (hl:SlR evE w p l) (hn:l.length<=100000) (hc:p=none->cap=0) :
  Calls PG 143 #[.slice p l.length cap] w fun e w'=>(∃ q c,e = .returned (.slice q l.length c)/\OwnS evE 158 w.heap.size w' q c l)/\Bw w w':=by
 refine zD 8 [.slice p l.length cap] Tryz.func143 ?_;refine⟨_,fun w=>zty Tryz.underlying25 _ _ p l.length cap w,?_⟩
 cases p with
 | none =>
  refine brT ?_;have e:=hl.none;subst e;exact⟨⟨none,0,rfl,OwnS.nil⟩,Gh _ _⟩
 | some a =>
  refine brF ⟨⟨by decide,by decide,rfl⟩,[],rfl,?_⟩;have hb0:Bw w (w.alloc (.cells #[] 158)):=zba w _;refine zgp (E:=evE) (T:=158) (B:=w.heap.size) (l:=[]) (news:=l) (cap:=0) Tryz.underlying25 zd3 rfl rfl rfl zgJ rfl (hl.below hb0) (fun h=>by cases h) hb0.size (by simp;omega) (by show (0+l.length)*16<=_;omega) ?_;intro p' cap' w' ho hg hbw;exact⟨⟨p',cap',rfl,ho⟩,hb0.trans hbw⟩
end
theorem zec {p:OA} {cap:Nat} {l:List UInt8} {w:Wd} (hl:SlR zO w p l) (h1:1<=l.length) (h12:l.length<=12) (hs:zdV l=true) :
  Calls PG 135 #[.slice p l.length cap] w fun e w'=>(∃ q c,e = .returned (.slice q (ded l).length c)/\OwnS zO 5 w.heap.size w' q c (ded l))/\Bw w w':=by
 refine zD 9 [.slice p l.length cap] Tryz.func135 ?_;refine cmo (zk4 hl (by omega) (fun e=>by subst e;have:=hl.none;subst this;simp at h1)) ?_;rintro e X ⟨⟨q,c,rfl,ho⟩,hbX⟩;rcases ho.inv with ⟨_,_,h0⟩ | ⟨g,cur,rfl,hB,_⟩
 ·rw [h0] at h1;simp at h1
 refine cmo (zsg ho.row h12 hs) ?_;rintro e Y ⟨rfl,hbY⟩;have hbY':Bw X Y:=⟨hbY.os,hbY.tape,hbY.output,hbY.size,hbY.block⟩;refine cmo (zmk (ho.below hbY) (by omega)) ?_;rintro e Z ⟨rfl,oZ,gZ⟩;have hwX:=hbX.size;exact⟨⟨_,_,rfl,oZ⟩,(hbX.trans (hbY.mono hwX)).trans (zm gZ (UT hwX hbY.size) hB)⟩
def zhL (P:PathD) (q1:OA) (c1:Nat) (q2:OA) (c2:Nat) (q3:OA) (c3:Nat) (q4:OA) (c4:Nat):List Value :=
 [.slice q1 P.ev.length c1,.slice q2 P.data.length c2,.slice q3 P.ctrl.length c3,.slice q4 P.rmw.length c4]++seg 8 (fun i=>u8 (P.regs i))
theorem zj0 (P:PathD) (q1 c1 q2 c2 q3 c3 q4 c4):(zhL P q1 c1 q2 c2 q3 c3 q4 c4).all Value.oneCell'=true:=by
 unfold zhL;rw [QL,zbo fun _=>rfl];rfl
theorem zj1 (P:PathD) (q1 c1 q2 c2 q3 c3 q4 c4):(zhL P q1 c1 q2 c2 q3 c3 q4 c4).length=12:=by
 unfold zhL;rw [lap,zG];rfl
def ztY (R:RunD):Prop:=∀ i,i<R.many->R.data i<2^32/\R.ctrl i<2^32/\R.att i<2^32
section
variable {R:RunD} {b:Nat} {w:Wd}
theorem znu {X:Wd} {o n m:Nat} {f:Nat->Nat} (hb:b<X.heap.size) (h:∀ i,i<n->X.cell? ⟨b,o+i,none⟩=some (s32 (f i))) (hm:m<=n):SlR zgx X (some ⟨b,o,none⟩) ((List.range m).map f):=by
 refine .inr ⟨b,o,rfl,hb,fun i hi=>?_⟩;have hi:i<m:=by simpa using hi
 rw [Qr,Ky];refine qt fun j v hv=>?_
 cases j with
 | zero =>
  have hv:s32 (f i)=v:=by simpa [zgx] using hv
  rw [<- hv];show X.cell? ⟨b,o+i*1+0,none⟩=_;rw [Gd,UQ];exact h i (by omega)
 | succ j=>simp [zgx] at hv
theorem zrL {X:Wd} {m:Nat} (f:zau X b R) (hm:m<=24):SlR evE X (some ⟨b,19,none⟩) ((List.range m).map R.ev):=by
 have hc:=zmw f;refine .inr ⟨b,19,rfl,hlt f,fun i hi=>?_⟩;have hi:i<m:=by simpa using hi
 rw [Qr,Ky,<- zp3 R.ev (show i<24 by omega)];exact zM hc
theorem zs7 (f:zau w b R) (hm:R.many<=24) (hB:ztY R) (hT:Tz32M w) :
  Calls PG 197 #[AtR b] w fun e w'=>(∃ q1 c1 q2 c2 q3 c3 q4 c4,e = .returned (.agg (zhL (zck R) q1 c1 q2 c2 q3 c3 q4 c4).toArray)/\OwnS evE 158 w.heap.size w' q1 c1 (zck R).ev/\OwnS prE 326 w.heap.size w' q2 c2 (zck R).data/\OwnS prE 326 w.heap.size w' q3 c3 (zck R).ctrl/\OwnS prE 326 w.heap.size w' q4 c4 (zck R).rmw)/\Bw w w':=by
 refine zD 44 [AtR b] Tryz.func197 ?_;obtain⟨Z0,hZ0⟩:∃ Z0:List Value,Z0=zhL ⟨[],[],[],[],fun _=>0⟩ none 0 none 0 none 0 none 0:=⟨_,rfl⟩;have f0:=zA w (.cells Z0.toArray 241);have hb0:Bw w (w.alloc (.cells Z0.toArray 241)):=zba w _;obtain⟨X,hX⟩:=nm ((w.alloc (.cells Z0.toArray 241)).drew);have hbX:Bw w X:=by rw [hX];exact hb0.drew
 have f0X:X.heap[w.heap.size]?=some (.cells Z0.toArray 241 (0,0)):=by rw [hX];exact f0
 have fX:=zb hbX f;have hX':(w.alloc (.cells (#[.slice none 0 0,.slice none 0 0,.slice none 0 0,.slice none 0 0,.int .u8 0,.int .u8 0,.int .u8 0,.int .u8 0,.int .u8 0,.int .u8 0,.int .u8 0,.int .u8 0]:Array Value) 241)).drew=X:=by rw [hX,hZ0];rfl
 refine DrawE.ord [41] [0,1,2,3,4,5,6,7,9,10,11,12,13,14,15,16,18,19,20,21,22,23,24,25,27,28,29,30,31,32,33,34,36,37,38,39,8,17,26,35,40,41] (by kernel_rfl) ?_;have cut:∀ (o e:Nat),Value.slice (qS (some ⟨b,0+o,none⟩) 24 0 e) (R.many-0) (24-0) = .slice (some ⟨b,o,none⟩) R.many 24:=fun o e=>by rw [zcH,UX];rfl
 have lm:∀ {α:Type} (g:Nat->α),((List.range R.many).map g).length=R.many:=fun g=>by rw [QQ,KV]
 have hbx:=hlt fX;have sd:∀ {o:Nat} {g:Nat->Nat},(∀ i,i<24->(qQ R)[o+i]?=some (s32 (g i)))->SlR zgx X (some ⟨b,o,none⟩) ((List.range R.many).map g):=fun {o g} h=>znu hbx (fun i hi=>by
  have:=zc (za fX) (h i hi);rw [UX] at this;exact this) hm
 rw [hX'];refine⟨_,zc (za fX) (i:=18) (zbz R),R.many,rfl,hm,_,zc (za fX) (i:=18) (zbz R),R.many,rfl,hm,_,zc (za fX) (i:=18) (zbz R),R.many,rfl,hm,_,zc (za fX) (i:=18) (zbz R),R.many,rfl,hm,seg 8 (fun i=>u8 (R.regs i)),zG _ _,?_,hbx,?_⟩
 ·have:=zM (n:=1) (m:=8) (za fX);have e:((qQ R).toArray.toList.drop 1).take 8=seg 8 (fun i=>u8 (R.regs i)):=by
   show (seg 8 (fun i=>u8 (R.regs i))++_).take 8=_;exact QZ (zG _ _)
  rw [e] at this;exact this
 have c1:=ziI (w:=X) (cap:=24) (zrL fX hm) (by rw [lm];omega) (fun h=>by cases h);rw [lm,<- cut 19 7] at c1;refine cmo c1 ?_;rintro e Y1 ⟨⟨q1,k1,rfl,o1⟩,hb1⟩;refine⟨hb1,?_⟩;have hw1:=zst hbX hb1;have c2:=ziY (w:=Y1) (cap:=24) ((sd (o:=187) (g:=R.data) fun i hi=>zo0 R hi).below hb1) (by rw [lm];exact hm) (fun x hx=>by
  obtain⟨i,hi,rfl⟩:=UO.1 hx;exact (hB i (Uq.1 hi)).1) (hT.below hw1)
 rw [lm,<- cut 187 1,zfj] at c2;refine cmo c2 ?_;rintro e Y2 ⟨⟨q2,k2,rfl,o2⟩,hb2⟩;refine⟨hb2,?_⟩;have hx2:=zst hb1 hb2;have hw2:=zst hbX hx2;have c3:=ziY (w:=Y2) (cap:=24) ((sd (o:=211) (g:=R.ctrl) fun i hi=>zo1 R hi).below hx2) (by rw [lm];exact hm) (fun x hx=>by
  obtain⟨i,hi,rfl⟩:=UO.1 hx;exact (hB i (Uq.1 hi)).2.1) (hT.below hw2)
 rw [lm,<- cut 211 1,zfj] at c3;refine cmo c3 ?_;rintro e Y3 ⟨⟨q3,k3,rfl,o3⟩,hb3⟩;refine⟨hb3,?_⟩;have hx3:=zst hx2 hb3;have hw3:=zst hbX hx3;have c4:=ziY (w:=Y3) (cap:=24) ((sd (o:=235) (g:=R.att) fun i hi=>zq2 R hi).below hx3) (by rw [lm];exact hm) (fun x hx=>by
  obtain⟨i,hi,rfl⟩:=UO.1 hx;exact (hB i (Uq.1 hi)).2.2) (hT.below hw3)
 rw [lm,<- cut 235 1,zfj] at c4;refine cmo c4 ?_;rintro e Y4 ⟨⟨q4,k4,rfl,o4⟩,hb4⟩;refine⟨hb4,?_⟩;have hx4:=zst hx3 hb4;have hw4:=zst hbX hx4;have le1:(zck R).ev.length=R.many:=lm _;obtain⟨cs,hcs⟩:=nm (zhL (zck R) q1 k1 q2 k2 q3 k3 q4 k4);refine⟨cs,by rw [hcs];unfold zhL;rw [le1];rfl,?_⟩;have f4:=zb hx4 f0X;have hone:cs.all Value.oneCell'=true:=by rw [hcs];exact zj0 ..
 have hlen:cs.length=12:=by rw [hcs];exact zj1 ..
 refine zy (v := .agg cs.toArray) znZ f4 hlen (by rw [hZ0];rfl) hone ?_;have f5:=zq (cs':=(Value.agg cs.toArray).cells) f4;have hs:w.heap.size<=X.heap.size:=hbX.size;have keep:∀ {α:Type} {E:Enc α} {T B c:Nat} {p:OA} {l:List α},X.heap.size<=B->OwnS E T B Y4 p c l->OwnS E T w.heap.size (Y4.setRow w.heap.size (Value.agg cs.toArray).cells) p c l:=fun {α E T B c p l} hB o=>by
  refine OwnS.lower (o.kept (qq Y4 w.heap.size _) fun g hg e=>?_) (UT hs hB);rcases o.inv with ⟨h,_⟩ | ⟨g',cur,h,h2,_⟩
  ·rw [h] at hg;cases hg
  ·rw [h] at hg;simp only [KZ,Uv,Gp] at hg e;have:=hlt f0X;omega
 have n1:=hb1.size;have n2:=hb2.size;have n3:=hb3.size;refine⟨cs,hlen,za f5,⟨q1,k1,q2,k2,q3,k3,q4,k4,by rw [hcs];rfl,keep (Gc _) (((o1.below hb2).below hb3).below hb4),keep (by omega) ((o2.below hb3).below hb4),keep (by omega) (o3.below hb4),keep (by omega) o4⟩,zl hw4 (Gc _) _⟩
end
theorem jO (c : UInt8) (w : Wd) : Calls PG 239 #[u8 c] w fun e w' => e = .returned (i64 (z7 c)) ∧ w = w' := by
  refine zhw (S := sg 47) (zbi _) (args := [u8 c]) (.s .p (.c .p .p)) Tryz.func239 rfl rfl (JS rfl) rfl ?_
  refine ⟨Unit, fun _ => ⟨[(0, u8 c)], []⟩, fun _ X => zfP c = false ∧ zg9 c = false ∧ w = X, ?_, ?_⟩
  · repeat first
      | exact ⟨(), ⟨.cons rfl .nil, rfl⟩, by unfold zfP; simp only [*]; rfl, by unfold zg9; simp only [*]; rfl, rfl⟩
      | exact ⟨by
          first
          | (have e : zfP c = true := by unfold zfP; simp only [*]; rfl
             unfold z7; rw [e]; rfl)
          | (have e1 : zfP c = false := by unfold zfP; simp only [*]; rfl
             have e2 : zg9 c = true := by unfold zg9; simp only [*]; rfl
             unfold z7; rw [e1, e2]; rfl), rfl⟩
      | refine brT ?_
      | refine brF ?_
      | refine brE (by assumption) ?_
      | refine brN (by assumption) ?_
      | refine Gm (fun h => ?_) (fun h => ?_)
  rintro _ _ ⟨h1, h2, rfl⟩
  have key : z7 c = (bif eqB c 32 || eqB c 9 then 1 else bif eqB c 10 then 2 else bif eqB c 95 then 5 else bif eqB c 35 then 7 else bif zmQ c then 6 else 0) := by unfold z7; rw [h1, h2]; rfl
  rw [key]
  clear key h1 h2
  unfold zmQ
  refine Gm (fun h => ?_) (fun h => ?_)
  · have h : eqB c 32 = true := h
    refine brE h ?_
    exact ⟨by rw [h]; rfl, rfl⟩
  have h32 : eqB c 32 = false := h
  refine Gm (fun h => ?_) (fun h => ?_)
  · have h : eqB c 9 = true := h
    exact ⟨by rw [h32, h]; rfl, rfl⟩
  have h9 : eqB c 9 = false := h
  refine Gm (fun h => ?_) (fun h => ?_)
  · have h : eqB c 10 = true := h
    exact ⟨by rw [h32, h9, h]; rfl, rfl⟩
  have h10 : eqB c 10 = false := h
  refine Gm (fun h => ?_) (fun h => ?_)
  · have h : eqB c 95 = true := h
    exact ⟨by rw [h32, h9, h10, h]; rfl, rfl⟩
  have h95 : eqB c 95 = false := h
  refine Gm (fun h => ?_) (fun h => ?_)
  · have h : eqB c 35 = true := h
    exact ⟨by rw [h32, h9, h10, h95, h]; rfl, rfl⟩
  have h35 : eqB c 35 = false := h
  rw [h32, h9, h10, h95, h35]
  refine Gm (fun h => ?_) (fun h => ?_)
  · have h : eqB c 61 = true := h
    refine brE h ?_
    exact ⟨by rw [h]; rfl, rfl⟩
  have h61 : eqB c 61 = false := h
  refine Gm (fun h => ?_) (fun h => ?_)
  · have h : eqB c 43 = true := h
    refine brE h ?_
    exact ⟨by rw [h61, h]; rfl, rfl⟩
  have h43 : eqB c 43 = false := h
  refine Gm (fun h => ?_) (fun h => ?_)
  · have h : eqB c 45 = true := h
    refine brE h ?_
    exact ⟨by rw [h61, h43, h]; rfl, rfl⟩
  have h45 : eqB c 45 = false := h
  refine Gm (fun h => ?_) (fun h => ?_)
  · have h : eqB c 94 = true := h
    refine brE h ?_
    exact ⟨by rw [h61, h43, h45, h]; rfl, rfl⟩
  have h94 : eqB c 94 = false := h
  refine Gm (fun h => ?_) (fun h => ?_)
  · have h : eqB c 38 = true := h
    refine brE h ?_
    exact ⟨by rw [h61, h43, h45, h94, h]; rfl, rfl⟩
  have h38 : eqB c 38 = false := h
  refine Gm (fun h => ?_) (fun h => ?_)
  · have h : eqB c 124 = true := h
    refine brE h ?_
    exact ⟨by rw [h61, h43, h45, h94, h38, h]; rfl, rfl⟩
  have h124 : eqB c 124 = false := h
  refine Gm (fun h => ?_) (fun h => ?_)
  · have h : eqB c 33 = true := h
    refine brE h ?_
    exact ⟨by rw [h61, h43, h45, h94, h38, h124, h]; rfl, rfl⟩
  have h33 : eqB c 33 = false := h
  refine Gm (fun h => ?_) (fun h => ?_)
  · have h : eqB c 40 = true := h
    refine brE h ?_
    exact ⟨by rw [h61, h43, h45, h94, h38, h124, h33, h]; rfl, rfl⟩
  have h40 : eqB c 40 = false := h
  refine Gm (fun h => ?_) (fun h => ?_)
  · have h : eqB c 41 = true := h
    refine brE h ?_
    exact ⟨by rw [h61, h43, h45, h94, h38, h124, h33, h40, h]; rfl, rfl⟩
  have h41 : eqB c 41 = false := h
  refine Gm (fun h => ?_) (fun h => ?_)
  · have h : eqB c 58 = true := h
    refine brE h ?_
    exact ⟨by rw [h61, h43, h45, h94, h38, h124, h33, h40, h41, h]; rfl, rfl⟩
  have h58 : eqB c 58 = false := h
  refine Gm (fun h => ?_) (fun h => ?_)
  · have h : eqB c 60 = true := h
    exact ⟨by rw [h61, h43, h45, h94, h38, h124, h33, h40, h41, h58, h]; rfl, rfl⟩
  have h60 : eqB c 60 = false := h
  exact ⟨by rw [h61, h43, h45, h94, h38, h124, h33, h40, h41, h58, h60]; rfl, rfl⟩
theorem zky (c : UInt8) (w : Wd) : Calls PG 241 #[u8 c] w fun e w' => e = .returned (.bool (qp c)) ∧ w = w' := by
  refine qM (S := sg 16) (zbi _) (args := [u8 c]) Tryz.func241 rfl rfl (JS rfl) rfl ?_
  refine Gi (jO c w) ?_
  rintro e _ ⟨rfl, rfl⟩
  have e3 : ∀ k : Nat, decide ((z7 c : Int) = (k : Int)) = decide (z7 c = k) := fun k => by rw [QH]; omega
  refine Gm (fun h => ?_) (fun h => ?_)
  · have h : decide (z7 c = 3) = true := (e3 3).symm.trans h
    refine Gm (fun _ => ?_) (fun h => by cases h)
    exact ⟨rb (by unfold qp; rw [h]; rfl), rfl⟩
  have h3 : decide (z7 c = 3) = false := (e3 3).symm.trans h
  refine Gm (fun h => ?_) (fun h => ?_)
  · have h : decide (z7 c = 4) = true := (e3 4).symm.trans h
    exact ⟨rb (by unfold qp; rw [h3, h]; rfl), rfl⟩
  have h4 : decide (z7 c = 4) = false := (e3 4).symm.trans h
  exact ⟨rb (by unfold qp; rw [h3, h4]; exact e3 5), rfl⟩
theorem zby {p:UInt8->Bool} {s:List UInt8} {k:Nat} (h:k<s.length):jw p (s.drop k)=if p s[k] then jw p (s.drop (k+1))+1 else 0:=by
 rw [Jo h];rfl
theorem zf8 {p:UInt8->Bool} {s:List UInt8} {k:Nat} (h:s.length<=k):jw p (s.drop k)=0:=by
 rw [JA h];rfl
theorem zkz {p:UInt8->Bool} (s:List UInt8) (k:Nat) (h:k<=s.length):k+jw p (s.drop k)<=s.length:=by
 have:=zjQ p (s.drop k);rw [Qu] at this;omega
theorem zbX {a b:Nat}:decide ((a:Int)=(b:Int))=decide (a=b):=by rw [QH];omega
theorem zcr {s:List UInt8} {k:Nat} (h:k<s.length):(bs s).data.toList[k]?=some s[k]:=by
 show s[k]?=_;exact gE h
theorem zi1 {g a:Nat} {s:List UInt8} {w:Wd} (h:zo w ⟨g,0,none⟩ [zn s,i64 a]) :
  CB 283 #[At0 g] w (.bool (decide (s.length<=a))):=by
 refine zD 13 [At0 g] Tryz.func283 ?_;refine DrawE.ord [] [0,1,2,3,4,5,6,7,8,9,10] (by kernel_rfl) ?_;have h:zo w.drew ⟨g,0,none⟩ [zn s,i64 a]:=zJ rfl h;refine⟨_,zc h (i:=1) rfl,_,zc h (i:=0) rfl,rb ?_,(Gh _ _).drew⟩;show decide ((s.length:Int)<=(a:Int))=_;rw [QH];omega
theorem zm9 {g a:Nat} {s:List UInt8} {w:Wd} (h:zo w ⟨g,0,none⟩ [zn s,i64 a]) (hg:g<w.heap.size) :
  CB 281 #[At0 g] w (.bool (jT s a)):=by
 refine zD 18 [At0 g] Tryz.func281 ?_;refine DrawE.ord [] [0,1,2,3,4,5,6,7,8,9,10,11,12,13,14,15] (by kernel_rfl) ?_;have h:zo w.drew ⟨g,0,none⟩ [zn s,i64 a]:=zJ rfl h;refine cmo (zi1 h) ?_;rintro e V ⟨rfl,hb⟩;refine⟨hb,?_⟩;have hw:=(Gh w.heap.size w).drew.trans hb;have hV:=qT hb hg h;refine biE (fun ho=>?_) fun ho=>?_
 ·have ho:s.length<=a:=dT ho;have:jT s a=true:=by unfold jT;rw [JJ ho]
  exact⟨rb this.symm,hw⟩
 ·have ho:¬ s.length<=a:=dF ho;have hl:a<s.length:=by omega
  refine⟨_,zc hV (i:=0) rfl,_,zc hV (i:=1) rfl,a,rfl,hl,s[a],zcr hl,cmo (jO _ _) ?_⟩;rintro e _ ⟨rfl,rfl⟩;refine⟨Gh _ _,?_⟩;have:jT s a=decide (z7 s[a]=2):=by unfold jT;rw [gE hl]
  exact⟨rb (by rw [this];exact zbX),hw⟩
theorem znj {g a:Nat} {s:List UInt8} {w:Wd} (h:zo w ⟨g,0,none⟩ [zn s,i64 a]) (ha:a<s.length) (hs:s.length<=140737488351232) :
  Calls PG 295 #[At0 g] w fun e w'=>e = .returned (i64 (a+1+jw qp (s.drop (a+1)):Nat))/\w=w':=by
 refine zD 28 [At0 g] Tryz.func295 ?_;refine⟨_,zc h (i:=1) rfl,(a+1:Nat),(zi (by omega)).trans (by omega),Nat,fun k=>⟨[(0,At0 g),(3,.int .i64 (k:Nat))],[]⟩,fun k X=>k<=s.length/\k+jw qp (s.drop k)=a+1+jw qp (s.drop (a+1))/\w=X,fun k=>s.length-k,a+1,(cvE rfl rfl),⟨ha,rfl,rfl⟩,?_⟩;rintro k _ ⟨hk,he,rfl⟩;dsimp only at hk he ⊢;refine⟨_,zc h (i:=0) rfl,biE (fun hc=>?_) fun hc=>?_⟩
 ·have hc:(k:Int)<(s.length:Int):=dT hc;have hl:k<s.length:=by omega
  refine⟨_,zc h (i:=0) rfl,k,rfl,hl,s[k],zcr hl,cmo (zky _ _) ?_⟩;rintro e _ ⟨rfl,rfl⟩;refine biE (fun hi=>?_) fun hi=>?_
  ·refine⟨(k+1:Nat),(zi (by omega)).trans (by omega),k+1,(cvE rfl rfl),⟨hl,?_,rfl⟩,zdc (by omega)⟩;rw [zby hl,Gx hi] at he;omega
  ·have hi:¬ qp s[k]=true:=by rw [Qj];exact hi
   rw [zby hl,Gw hi] at he;exact⟨by rw [<- he];rfl,rfl⟩
 ·have hc:¬ (k:Int)<(s.length:Int):=dF hc;refine Gm (fun h=>by cases h) (fun _=>?_);rw [zf8 (by omega)] at he;exact⟨by rw [<- he];rfl,rfl⟩
theorem zke {g a:Nat} {s:List UInt8} {w:Wd} (h:zo w ⟨g,0,none⟩ [zn s,i64 a]) (ha:a<s.length) (hs:s.length<=140737488351232) :
  Calls PG 296 #[At0 g] w fun e w'=>e = .returned (i64 (a+1+jw zbk (s.drop (a+1)):Nat))/\w=w':=by
 refine zD 29 [At0 g] Tryz.func296 ?_;refine⟨_,zc h (i:=1) rfl,(a+1:Nat),(zi (by omega)).trans (by omega),Nat,fun k=>⟨[(0,At0 g),(3,.int .i64 (k:Nat))],[]⟩,fun k X=>k<=s.length/\k+jw zbk (s.drop k)=a+1+jw zbk (s.drop (a+1))/\w=X,fun k=>s.length-k,a+1,(cvE rfl rfl),⟨ha,rfl,rfl⟩,?_⟩;rintro k _ ⟨hk,he,rfl⟩;dsimp only at hk he ⊢;refine⟨_,zc h (i:=0) rfl,biE (fun hc=>?_) fun hc=>?_⟩
 ·have hc:(k:Int)<(s.length:Int):=dT hc;have hl:k<s.length:=by omega
  refine⟨_,zc h (i:=0) rfl,k,rfl,hl,s[k],zcr hl,cmo (jO _ _) ?_⟩;rintro e _ ⟨rfl,rfl⟩;have hd:decide ((z7 s[k]:Int)=4)=zbk s[k]:=zbX (b:=4);refine biE (fun hi=>?_) fun hi=>?_
  ·refine⟨(k+1:Nat),(zi (by omega)).trans (by omega),k+1,(cvE rfl rfl),⟨hl,?_,rfl⟩,zdc (by omega)⟩;rw [zby hl,Gx (hd.symm.trans hi)] at he;omega
  ·have hi:¬ zbk s[k]=true:=by rw [Qj];exact hd.symm.trans hi
   rw [zby hl,Gw hi] at he;exact⟨by rw [<- he];rfl,rfl⟩
 ·have hc:¬ (k:Int)<(s.length:Int):=dF hc;refine Gm (fun h=>by cases h) (fun _=>?_);rw [zf8 (by omega)] at he;exact⟨by rw [<- he];rfl,rfl⟩
def zgw (s:List UInt8) (a:Nat) (c:UInt8):Nat:=if (eqB c 61||eqB c 33)&&decide (s[a+1]?=some 61) then a+2 else a+1
theorem znt {g a:Nat} {s:List UInt8} {w:Wd} (h:zo w ⟨g,0,none⟩ [zn s,i64 a]) (ha:a<s.length) (hs:s.length<=140737488351232) :
  CB 294 #[At0 g] w (i64 (zgw s a s[a])):=by
 refine z6 46 [At0 g] (.s .p (.s .p (.s .p (.c .p .p)))) Tryz.func294 ?_;refine⟨_,zc h (i:=1) rfl,(a+1:Nat),(zi (by omega)).trans (by omega),DrawE.ord [] [0,1,2,3,4,5,6,7,8,9] (by kernel_rfl) ?_⟩;have hd:zo w.drew ⟨g,0,none⟩ [zn s,i64 a]:=zJ rfl h;refine⟨_,zc hd (i:=0) rfl,_,zc hd (i:=1) rfl,a,rfl,ha,s[a],zcr ha,Unit,fun _=>⟨[(3,i64 (zgw s a s[a]))],[]⟩,fun _ X=>X=w.drew,?_,?_⟩
 ·have no:((eqB s[a] 61||eqB s[a] 33)&&decide (s[a+1]?=some 61))=false->∃ _:Unit,some (Value.int .i64 ((a+1:Nat):Int))=some (i64 (zgw s a s[a])):=fun hf=>⟨(),by unfold zgw;rw [hf];rfl⟩;refine biE (fun h1=>?_) fun h1=>?_
  ·have he:(eqB s[a] 61||eqB s[a] 33)=true:=by
    have:eqB s[a] 61=true:=h1;rw [this];rfl
   refine brT ⟨_,zc hd (i:=0) rfl,biE (fun h2=>?_) fun h2=>?_⟩
   ·have h2:((a+1:Nat):Int)<(s.length:Int):=dT h2;have hl:a+1<s.length:=(by omega);refine⟨_,zc hd (i:=0) rfl,a+1,rfl,hl,s[a+1],zcr hl,biE (fun h3=>?_) fun h3=>?_⟩
    ·refine⟨(a+2:Nat),(zi (by omega)).trans (by omega),(),⟨.cons ?_ .nil,rfl⟩,rfl⟩;have h61:s[a+1]=61:=by
      apply Uh.1;have:((s[a+1].toNat:Nat):Int)=61:=dT h3;have h6:(61:UInt8).toNat=61:=rfl;omega
     unfold zgw;rw [he,gE hl,h61];rfl
    ·obtain⟨_,e⟩:=no (by
      have h61:¬ s[a+1]=61:=fun e=>by rw [e] at h3;cases h3
      rw [gE hl,Uj (by simpa using h61),Uk])
     exact⟨(),⟨.cons e .nil,rfl⟩,rfl⟩
   ·have h2:¬ ((a+1:Nat):Int)<(s.length:Int):=dF h2;refine brF ?_;obtain⟨_,e⟩:=no (by rw [JJ (by omega)];simp);exact⟨(),⟨.cons e .nil,rfl⟩,rfl⟩
  ·have h1:eqB s[a] 61=false:=h1;refine biE (fun h1b=>?_) fun h1b=>?_
   ·have he:(eqB s[a] 61||eqB s[a] 33)=true:=by
     have:eqB s[a] 33=true:=h1b;rw [this,Bool.or_true]
    refine⟨_,zc hd (i:=0) rfl,biE (fun h2=>?_) fun h2=>?_⟩
    ·have h2:((a+1:Nat):Int)<(s.length:Int):=dT h2;have hl:a+1<s.length:=(by omega);refine⟨_,zc hd (i:=0) rfl,a+1,rfl,hl,s[a+1],zcr hl,biE (fun h3=>?_) fun h3=>?_⟩
     ·refine⟨(a+2:Nat),(zi (by omega)).trans (by omega),(),⟨.cons ?_ .nil,rfl⟩,rfl⟩;have h61:s[a+1]=61:=by
       apply Uh.1;have:((s[a+1].toNat:Nat):Int)=61:=dT h3;have h6:(61:UInt8).toNat=61:=rfl;omega
      unfold zgw;rw [he,gE hl,h61];rfl
     ·obtain⟨_,e⟩:=no (by
       have h61:¬ s[a+1]=61:=fun e=>by rw [e] at h3;cases h3
       rw [gE hl,Uj (by simpa using h61),Uk])
      exact⟨(),⟨.cons e .nil,rfl⟩,rfl⟩
    ·have h2:¬ ((a+1:Nat):Int)<(s.length:Int):=dF h2;refine brF ?_;obtain⟨_,e⟩:=no (by rw [JJ (by omega)];simp);exact⟨(),⟨.cons e .nil,rfl⟩,rfl⟩
   ·have h1b:eqB s[a] 33=false:=h1b;refine brF (brF ?_);obtain⟨_,e⟩:=no (by rw [h1,h1b];rfl);exact⟨(),⟨.cons e .nil,rfl⟩,rfl⟩
 rintro _ _ rfl;exact⟨rfl,(Gh _ _).drew⟩
def ScV (X:Wd) (g:Nat) (s:List UInt8) (a:Nat) (op:Bool):Prop:=X.heap[g]?=some (.cells #[zn s,i64 a,.bool op] 334 (0,0))
theorem ScV.cells {X:Wd} {g a:Nat} {s:List UInt8} {op:Bool} (h:ScV X g s a op):zo X ⟨g,0,none⟩ [zn s,i64 a]:=by
 have:=qz (o:=0) (n:=2) h;exact this
theorem ScV.below {X Y:Wd} {g a:Nat} {s:List UInt8} {op:Bool} (h:ScV X g s a op) (hb:Bw X Y):ScV Y g s a op:=zb hb h
theorem zgk {a b c:Wd} {g:Nat} (h:a.grownBy b (some g)) (k:Bw b c):a.grownBy c (some g):=zg h (zh k)
theorem zfg {X:Wd} {g a:Nat} {s:List UInt8} {op:Bool} (h:ScV X g s a op) (v:Nat) {K:Wd->Prop} (k:∀ Y,ScV Y g s v op->X.grownBy Y (some g)->Y.heap.size=X.heap.size->K Y) :
  SatR ((storeVar 3 ⟨g,1,none⟩ (i64 v)).run PG X) fun _ w'=>K w' :=
 zap k3 rfl h (o:=1) (by show 1<3;omega) (v:=i64 v) rfl rfl fun Y fY gY sY=>k Y fY gY sY
theorem zjX {X:Wd} {g a:Nat} {s:List UInt8} {op:Bool} (h:ScV X g s a op) (v:Bool) {K:Wd->Prop} (k:∀ Y,ScV Y g s a v->X.grownBy Y (some g)->Y.heap.size=X.heap.size->K Y) :
  SatR ((storeVar 4 ⟨g,2,none⟩ (.bool v)).run PG X) fun _ w'=>K w' :=
 zap k4 rfl h (o:=2) (by show 2<3;omega) (v := .bool v) rfl rfl fun Y fY gY sY=>k Y fY gY sY
theorem zcs {s:List UInt8} {k:Nat} (h:k<s.length):jT s k=decide (z7 s[k]=2):=by unfold jT;rw [gE h]
theorem zhy {s:List UInt8} {k:Nat} (h:s.length<=k):jT s k=true:=by unfold jT;rw [JJ h]
theorem zs8 {g a:Nat} {s:List UInt8} {op:Bool} {w:Wd} (h:ScV w g s a op) (ha:a<=s.length) (hs:s.length<=140737488351232) :
  Calls PG 280 #[At0 g] w fun e w'=>(∃ v,e = .returned v)/\ScV w' g s (zF s a) op/\w.grownBy w' (some g):=by
 refine z6 50 [At0 g] (.c .p (.c .p .p)) Tryz.func280 ?_;obtain⟨b,hb⟩:=nm (zb1 s a);have hbl:b<=s.length:=by rw [hb];exact zkz s a ha
 refine⟨Unit,fun _=>⟨[(0,At0 g)],[]⟩,fun _ X=>ScV X g s b op/\w.grownBy X (some g),?_,?_⟩
 ·refine⟨Nat,fun k=>⟨[(0,At0 g)],[]⟩,fun k X=>k<=s.length/\k+jw zjp (s.drop k)=b/\ScV X g s k op/\w.grownBy X (some g),fun k=>s.length-k,a,(cvE rfl rfl),⟨ha,hb.symm,h,jF _ _⟩,?_⟩;rintro k X ⟨hk,he,hX,hg⟩;dsimp only at hk he ⊢;refine DrawE.ord [] [0,1,2,3,4,5,6,7,8,9,10,11,12,13,14,15] (by kernel_rfl) ?_;have hXd:ScV X.drew g s k op:=hX;refine cmo (zi1 hXd.cells) ?_;rintro e Y ⟨rfl,hbY⟩;refine⟨hbY,?_⟩;have hY:=hXd.below hbY;have gY:w.grownBy Y (some g):=zg hg (zh ((Gh _ X).drew.trans hbY));refine biE (fun ho=>?_) fun ho=>?_
  ·have ho:s.length > k:=by
    have:(!decide (s.length<=k))=true:=ho;simpa using this
   refine⟨_,zc hY.cells (i:=0) rfl,_,zc hY.cells (i:=1) rfl,k,rfl,ho,s[k],zcr ho,cmo (jO _ _) ?_⟩;rintro e _ ⟨rfl,rfl⟩;refine⟨Gh _ _,?_⟩;have hd:decide ((z7 s[k]:Int)=1)=zjp s[k]:=zbX (b:=1);rw [zby ho] at he;refine biE (fun hi=>?_) fun hi=>?_
   ·rw [Gx (hd.symm.trans hi)] at he;exact⟨_,zc hY.cells (i:=1) rfl,(k+1:Nat),(zi (by omega)).trans (by omega),zfg hY (k+1) fun Z hZ gZ sZ=>⟨k+1,(cvE rfl rfl),⟨ho,by omega,hZ,zg gY gZ⟩,zdc (by omega)⟩⟩
   ·have hi:¬ zjp s[k]=true:=(by rw [Qj];exact hd.symm.trans hi);rw [Gw hi] at he;exact⟨(),(cvE rfl rfl),by rw [<- he];exact hY,gY⟩
  ·have ho:s.length<=k:=by
    have:(!decide (s.length<=k))=false:=ho;simpa using this
   refine brF ?_;rw [zf8 ho] at he;exact⟨(),(cvE rfl rfl),by rw [<- he];exact hY,gY⟩
 clear h;rintro _ X ⟨hX,hg⟩;have hp:zF s a=match s[b]? with
   | some c=>if z7 c=7 then b+jw zdL (s.drop b) else b
   | none=>b:=by rw [hb];rfl
 refine⟨Unit,fun _=>⟨[(0,At0 g)],[]⟩,fun _ X=>(∃ hl:b<s.length,z7 s[b]=7)/\ScV X g s b op/\w.grownBy X (some g),?_,?_⟩
 ·refine DrawE.ord [] [0,1,2,3,4,5,6,7,8,9,10,11,12,13,14] (by kernel_rfl) ?_;have hXd:ScV X.drew g s b op:=hX;refine cmo (zi1 hXd.cells) ?_;rintro e Y ⟨rfl,hbY⟩;refine⟨hbY,?_⟩;have hY:=hXd.below hbY;have gY:w.grownBy Y (some g):=zg hg (zh ((Gh _ X).drew.trans hbY));refine biE (fun ho=>?_) fun ho=>?_
  ·have ho:s.length<=b:=dT ho;refine brT ?_;have:zF s a=b:=by rw [hp,JJ ho]
   rw [this];exact⟨⟨_,rfl⟩,hY,gY⟩
  ·have ho:¬ s.length<=b:=dF ho;have hl:b<s.length:=by omega
   refine⟨_,zc hY.cells (i:=0) rfl,_,zc hY.cells (i:=1) rfl,b,rfl,hl,s[b],zcr hl,cmo (jO _ _) ?_⟩;rintro e _ ⟨rfl,rfl⟩;refine⟨Gh _ _,biE (fun hi=>?_) fun hi=>?_⟩
   ·have hi:¬ z7 s[b]=7:=by
     have h1:(!decide ((z7 s[b]:Int)=7))=true:=hi;simp at h1;omega
    have:zF s a=b:=(by rw [hp,gE hl];simp only [Gw hi]);rw [this];exact⟨⟨_,rfl⟩,hY,gY⟩
   ·have hi:z7 s[b]=7:=by
     have h1:(!decide ((z7 s[b]:Int)=7))=false:=hi;simp at h1;omega
    exact⟨(),(cvE rfl rfl),⟨hl,hi⟩,hY,gY⟩
 clear hX hg X;rintro _ X ⟨⟨hl,h7⟩,hX,hg⟩;have hp:zF s a=b+jw zdL (s.drop b):=by rw [hp,gE hl];simp only [Gx h7]
 rw [hp];refine⟨Nat,fun k=>⟨[(0,At0 g)],[]⟩,fun k X=>k<=s.length/\k+jw zdL (s.drop k)=b+jw zdL (s.drop b)/\ScV X g s k op/\w.grownBy X (some g),fun k=>s.length-k,b,(cvE rfl rfl),⟨hbl,rfl,hX,hg⟩,?_⟩;clear hX hg X;rintro k X ⟨hk,he,hX,hg⟩;dsimp only at hk he ⊢;refine cmo (zm9 hX.cells (hlt hX)) ?_;rintro e Y ⟨rfl,hbY⟩;have hY:=hX.below hbY;have gY:=zgk hg hbY;refine biE (fun hi=>?_) fun hi=>?_
 ·have hi:jT s k=false:=by
   have h1:(!jT s k)=true:=hi;simpa using h1
  have hkl:k<s.length:=by
   by_cases h0:k<s.length
   ·exact h0
   ·rw [zhy (by omega)] at hi;cases hi
  have hn:zdL s[k]=true:=by
   rw [zcs hkl] at hi;unfold zdL;rw [hi];rfl
  rw [zby hkl,Gx hn] at he;exact⟨_,zc hY.cells (i:=1) rfl,(k+1:Nat),(zi (by omega)).trans (by omega),zfg hY (k+1) fun Z hZ gZ sZ=>⟨k+1,(cvE rfl rfl),⟨hkl,by omega,hZ,zg gY gZ⟩,zdc (by omega)⟩⟩
 ·have hi:jT s k=true:=by
   have h1:(!jT s k)=false:=hi;simpa using h1
  have h0:jw zdL (s.drop k)=0:=by
   by_cases h0:k<s.length
   ·rw [zcs h0] at hi;rw [zby h0,Gw];unfold zdL;rw [hi];decide
   ·exact zf8 (by omega)
  rw [h0] at he;have he:k=b+jw zdL (s.drop b):=by omega
  exact⟨⟨_,rfl⟩,by rw [<- he];exact hY,gY⟩
theorem zmE {s:List UInt8} {a:Nat} (ha:a<=s.length):zF s a<=s.length:=by
 have h1:zb1 s a<=s.length:=zkz s a ha;unfold zF
 split
 ·split
  ·exact zkz s _ h1
  ·exact h1
 ·exact h1
def q5:Enc Tok:=⟨fun t=>[u8 t.kind,zn t.text,i64 t.pos],3,fun _=>rfl,by decide,fun a u hu=>by
 simp only [UF,Qw,Gs] at hu;rcases hu with rfl | rfl | rfl <;> rfl⟩
theorem zlW {s:List UInt8} {a:Nat} (ha:a<s.length) (c:UInt8):a<zaN s a c/\zaN s a c<=s.length:=by
 unfold zaN
 split
 ·have:=zkz (p:=qp) s (a+1) ha;omega
 ·split
  ·have:=zkz (p:=zbk) s (a+1) ha;omega
  ·split
   ·rename_i h;have h2:s[a+1]?=some 61:=by
     simp only [bAT,dE] at h;exact h.2
    have:=(Jq.1 h2).1;omega
   ·omega
theorem zmd (s:List UInt8) (a e:Nat):(bs s).extract a e=bs ((s.drop a).take (e-a)):=by
 have h:((bs s).extract a e).data=(bs ((s.drop a).take (e-a))).data:=by
  rw [ByteArray.data_extract];apply Qf.1;rw [JT];rfl
 exact ByteArray.ext h
theorem zqS {g a:Nat} {s:List UInt8} {op:Bool} {w:Wd} (h:ScV w g s a op) (ha:a<s.length) (hs:s.length<=140737488351232) :
  Calls PG 282 #[At0 g] w fun e w'=>e = .returned (.agg (q5.enc (zjI s a s[a])).toArray)/\ScV w' g s (zaN s a s[a]) op/\w.grownBy w' (some g):=by
 refine z6 51 [At0 g] (.s .p (.s .p (.c .p .p))) Tryz.func282 ?_;obtain⟨z,hz⟩:=nm (q5.enc ⟨0,[],0⟩);obtain⟨W0,hW0⟩:=nm ((w.alloc (.cells z.toArray 311)));have hb0:Bw w W0:=by rw [hW0];exact (zba _ _)
 have f0:W0.heap[w.heap.size]?=some (.cells z.toArray 311 (0,0)):=by rw [hW0];exact zA w _
 have h0:ScV W0 g s a op:=h.below hb0;have hgl:g<w.heap.size:=hlt h;refine⟨Nat,fun f=>⟨[(0,At0 g),(2,.pointer (some ⟨w.heap.size,0,none⟩)),(3,u8 (zfO s[a])),(4,.func (.func f) #[] #[])],[]⟩,fun f X=>Bw W0 X /\
  ((z7 s[a]=3/\f=295)\/(¬ z7 s[a]=3/\z7 s[a]=4/\f=296)\/(¬ z7 s[a]=3/\¬ z7 s[a]=4/\f=294)),?_,?_⟩
 ·subst hz;subst hW0;refine DrawE.ord [] [0,1,2,3,4,5,6,7,8,9,10,11] (by kernel_rfl) ?_;have hd:ScV (w.alloc (.cells (q5.enc ⟨0,[],0⟩).toArray 311)).drew g s a op:=h0;refine⟨_,zc hd.cells (i:=0) rfl,_,zc hd.cells (i:=1) rfl,a,rfl,ha,s[a],zcr ha,cmo (jO _ _) ?_⟩;rintro e _ ⟨rfl,rfl⟩;refine⟨Gh _ _,biE (fun h3=>?_) fun h3=>?_⟩
  ·have h3:z7 s[a]=3:=by have h3:(z7 s[a]:Int)=3:=dT h3;omega
   exact⟨_,⟨.cons rfl (.cons rfl (.cons (by unfold zfO;rw [Gx h3];rfl) (.cons rfl .nil))),rfl⟩,(Gh _ _).drew,.inl ⟨h3,rfl⟩⟩
  have h3:¬ z7 s[a]=3:=by have h3:¬ (z7 s[a]:Int)=3:=dF h3;omega
  refine biE (fun h4=>?_) fun h4=>?_
  ·have h4:z7 s[a]=4:=by have h4:(z7 s[a]:Int)=4:=dT h4;omega
   exact⟨_,⟨.cons rfl (.cons rfl (.cons (by unfold zfO;rw [Gw h3,Gx h4];rfl) (.cons rfl .nil))),rfl⟩,(Gh _ _).drew,.inr (.inl ⟨h3,h4,rfl⟩)⟩
  ·have h4:¬ z7 s[a]=4:=by have h4:¬ (z7 s[a]:Int)=4:=dF h4;omega
   exact⟨_,⟨.cons rfl (.cons rfl (.cons (by unfold zfO;rw [Gw h3,Gw h4];rfl) (.cons rfl .nil))),rfl⟩,(Gh _ _).drew,.inr (.inr ⟨h3,h4,rfl⟩)⟩
 rintro f V ⟨hV,hf⟩;dsimp only at hV hf ⊢;have hVs:=h0.below hV;obtain⟨e1,e2⟩:=zlW ha s[a];have fin:∀ Y,Bw V Y->∀ Z,ScV Z g s (zaN s a s[a]) op->Y.grownBy Z (some g)->Bw w Y/\Z.heap[w.heap.size]?=some (.cells z.toArray 311 (0,0))/\w.grownBy Z (some g):=fun Y hY Z hZ gZ=>by
  have hwY:=((zst hb0 hV)).trans (hY.mono (by have:=hb0.size;have:=hV.size;omega));have f1:=zb hY (zb hV f0);refine⟨hwY,(gZ.block _ (hlt f1) (fun e=>by simp only [KZ] at e;omega)).trans f1,zg (zh hwY) gZ⟩
 have last:∀ Z,Z.heap[w.heap.size]?=some (.cells z.toArray 311 (0,0))->w.grownBy Z (some g)->∀ R,Z.grownBy R (some w.heap.size)->w.grownBy R (some g):=fun Z _ gZ R gR =>
  ⟨gR.os.trans gZ.os,gR.tape.trans gZ.tape,gR.output.trans gZ.output,UT gZ.size gR.size,fun k hk hne=>(gR.block k (nL hk gZ.size) (fun e=>by simp only [KZ] at e;omega)).trans (gZ.block k hk hne)⟩
 have fill:∀ cs,cs=q5.enc (zjI s a s[a])->∀ Z,Z.heap[w.heap.size]?=some (.cells z.toArray 311 (0,0))->∀ (K:Wd->Prop),(∀ R,R.heap[w.heap.size]?=some (.cells (q5.enc (zjI s a s[a])).toArray 311 (0,0))->Z.grownBy R (some w.heap.size)->K R) ->
   SatR ((storeVar 311 ⟨w.heap.size,0,none⟩ (.agg cs.toArray)).run PG Z) fun _ w'=>K w':=fun cs hcs Z fZ K k=>by
  subst hz hcs;exact zy (v := .agg (q5.enc (zjI s a s[a])).toArray) zkt fZ rfl rfl rfl (k _ (zq fZ) (qq Z _ _))
 rcases hf with ⟨h3,rfl⟩ | ⟨h3,h4,rfl⟩ | ⟨h3,h4,rfl⟩
 ·refine⟨_,zc hVs.cells (i:=1) rfl,cmo (znj hVs.cells ha hs) ?_⟩;rintro e _ ⟨rfl,rfl⟩;have hbY:Bw V V:=Gh _ _;have hVY:=hVs;have ee:a+1+jw qp (s.drop (a+1))=zaN s a s[a]:=by unfold zaN;rw [Gx h3]
  rw [ee];refine zfg hVY (zaN s a s[a]) fun Z hZ gZ sZ=>?_;obtain⟨hwY,fZ,gwZ⟩:=fin V hbY Z hZ gZ;refine DrawE.ord [15] [0,1,2,3,4,5,6,7,8,9,10,11,12,13,14,15] (by kernel_rfl) ?_;have hZd:ScV Z.drew g s (zaN s a s[a]) op:=hZ;refine⟨_,zc hZd.cells (i:=0) rfl,_,zc hZd.cells (i:=1) rfl,zaN s a s[a],rfl,e2,a,rfl,by omega,?_⟩;exact⟨[u8 (zfO s[a]),.string ((bs s).extract a (zaN s a s[a])),i64 a],rfl,fill _ (by rw [zmd];rfl) Z.drew fZ _ fun R fR gR=>⟨_,rfl,za fR,rfl,(gR.block g (hlt hZd) (fun e=>by simp only [KZ] at e;omega)).trans hZd,last Z.drew fZ (zg gwZ (zh (Gh _ Z).drew)) R gR⟩⟩
 ·refine⟨_,zc hVs.cells (i:=1) rfl,cmo (zke hVs.cells ha hs) ?_⟩;rintro e _ ⟨rfl,rfl⟩;have hbY:Bw V V:=Gh _ _;have hVY:=hVs;have ee:a+1+jw zbk (s.drop (a+1))=zaN s a s[a]:=by unfold zaN;rw [Gw h3,Gx h4]
  rw [ee];refine zfg hVY (zaN s a s[a]) fun Z hZ gZ sZ=>?_;obtain⟨hwY,fZ,gwZ⟩:=fin V hbY Z hZ gZ;refine DrawE.ord [15] [0,1,2,3,4,5,6,7,8,9,10,11,12,13,14,15] (by kernel_rfl) ?_;have hZd:ScV Z.drew g s (zaN s a s[a]) op:=hZ;refine⟨_,zc hZd.cells (i:=0) rfl,_,zc hZd.cells (i:=1) rfl,zaN s a s[a],rfl,e2,a,rfl,by omega,?_⟩;exact⟨[u8 (zfO s[a]),.string ((bs s).extract a (zaN s a s[a])),i64 a],rfl,fill _ (by rw [zmd];rfl) Z.drew fZ _ fun R fR gR=>⟨_,rfl,za fR,rfl,(gR.block g (hlt hZd) (fun e=>by simp only [KZ] at e;omega)).trans hZd,last Z.drew fZ (zg gwZ (zh (Gh _ Z).drew)) R gR⟩⟩
 ·refine⟨_,zc hVs.cells (i:=1) rfl,cmo (znt hVs.cells ha hs) ?_⟩;rintro e Y ⟨rfl,hbY⟩;have hVY:=hVs.below hbY;have ee:zgw s a s[a]=zaN s a s[a]:=by unfold zaN;rw [Gw h3,Gw h4];rfl
  rw [ee];refine zfg hVY (zaN s a s[a]) fun Z hZ gZ sZ=>?_;obtain⟨hwY,fZ,gwZ⟩:=fin Y hbY Z hZ gZ;refine DrawE.ord [15] [0,1,2,3,4,5,6,7,8,9,10,11,12,13,14,15] (by kernel_rfl) ?_;have hZd:ScV Z.drew g s (zaN s a s[a]) op:=hZ;refine⟨_,zc hZd.cells (i:=0) rfl,_,zc hZd.cells (i:=1) rfl,zaN s a s[a],rfl,e2,a,rfl,by omega,?_⟩;exact⟨[u8 (zfO s[a]),.string ((bs s).extract a (zaN s a s[a])),i64 a],rfl,fill _ (by rw [zmd];rfl) Z.drew fZ _ fun R fR gR=>⟨_,rfl,za fR,rfl,(gR.block g (hlt hZd) (fun e=>by simp only [KZ] at e;omega)).trans hZd,last Z.drew fZ (zg gwZ (zh (Gh _ Z).drew)) R gR⟩⟩
def zdZ (l:List UInt8):Nat:=l.foldl (fun v c=>10*v+(c.toNat-48)) 0
theorem znS {s:List UInt8} {k:Nat} (h:k<s.length):zdZ (s.take (k+1))=10*zdZ (s.take k)+(s[k].toNat-48):=by
 unfold zdZ;rw [tsg h,KT];rfl
theorem zr2 {c:UInt8} (h:zbk c=true):48<=c.toNat/\c.toNat<=57:=by
 unfold zbk at h;have h:z7 c=4:=dT h;unfold z7 at h
 cases h1:zfP c with
 | true=>rw [h1] at h;cases h
 | false =>
  rw [h1] at h
  cases h2:zg9 c with
  | true=>unfold zg9 at h2;simp at h2;omega
  | false =>
   rw [h2] at h
   revert h
   cases eqB c 32||eqB c 9 <;> cases eqB c 10 <;> cases eqB c 95 <;> cases eqB c 35 <;> cases zmQ c <;> (intro h;cases h)
theorem zvi (s:List UInt8) (hs:s.length<=140737488351232) (w:Wd):Calls PG 284 #[zn s] w fun e w'=>∃ v,e = .returned (.tuple #[u8 v,.bool (zi4 s)])/\w=w':=by
 refine z6 47 [zn s] (.s .p (.c .p .p)) Tryz.func284 ?_;have hnl:zi4 s=(decide (1<=s.length)&&(decide (s.length<=3)&&(!(decide (s.head?=some 48)&&decide (1<s.length))&&(s.all zbk&&decide (zdZ s<=255))))):=rfl;refine⟨Unit,fun _=>⟨[(0,zn s)],[]⟩,fun _ X=>(1<=s.length/\s.length<=3/\(decide (s.head?=some 48)&&decide (1<s.length))=false)/\w=X,?_,?_⟩
 ·refine biE (fun h1=>?_) fun h1=>?_
  ·have h1:(s.length:Int)<1:=dT h1;exact brT (brT ⟨0,by rw [hnl,Uj (by omega)];rfl,rfl⟩)
  have h1:¬ (s.length:Int)<1:=dF h1;refine biE (fun h2=>?_) fun h2=>?_
  ·have h2:(3:Int)<(s.length:Int):=dT h2;exact brT ⟨0,by rw [hnl,Uj (p:=s.length<=3) (by omega)];simp;rfl,rfl⟩
  have h2:¬ (3:Int)<(s.length:Int):=dF h2;have h0:0<s.length:=by omega
  have hh:s.head?=some s[0]:=by rw [List.head?_eq_getElem?,gE h0]
  refine⟨0,rfl,h0,s[0],zcr h0,biE (fun h3=>?_) fun h3=>?_⟩
  ·have h3:s[0]=48:=by
    apply Uh.1;have h3:((s[0].toNat:Nat):Int)=48:=dT h3;have:(48:UInt8).toNat=48:=rfl;omega
   refine biE (fun h4=>?_) fun h4=>?_
   ·have h4:(1:Int)<(s.length:Int):=dT h4;exact⟨0,by rw [hnl,hh,h3,Ut (p:=1<s.length) (by omega)];simp;rfl,rfl⟩
   ·have h4:¬ (1:Int)<(s.length:Int):=dF h4;exact⟨(),(cvE rfl rfl),⟨by omega,by omega,by rw [Uj (p:=1<s.length) (by omega),Uk]⟩,rfl⟩
  ·refine brF ?_;exact⟨(),(cvE rfl rfl),⟨by omega,by omega,by
    have:¬ s[0]=48:=fun e=>by rw [e] at h3;cases h3
    rw [hh,Uj (by simpa using this),Ul]⟩,rfl⟩
 rintro _ _ ⟨⟨h1,h2,h3⟩,rfl⟩;have hnl:zi4 s=(s.all zbk&&decide (zdZ s<=255)):=by rw [hnl,Ut h1,Ut h2,h3];rfl
 rw [hnl];refine⟨Nat,fun k=>⟨[(0,zn s),(4,i64 (zdZ (s.take k):Nat)),(25,i64 s.length),(26,i64 (k:Nat))],[]⟩,fun k X=>k<=s.length/\(∀ c∈s.take k,zbk c=true)/\zdZ (s.take k)<10^k/\w=X,fun k=>s.length-k,0,(cvE rfl rfl),⟨Ge _,by simp,Nat.one_pos,rfl⟩,?_⟩;rintro k _ ⟨hk,hdg,hv,rfl⟩;dsimp only at hk hdg hv ⊢;refine biE (fun hc=>?_) fun hc=>?_
 ·have hc:(k:Int)<(s.length:Int):=dT hc;have hl:k<s.length:=by omega
  refine⟨k,rfl,hl,s[k],zcr hl,cmo (jO _ _) ?_⟩;rintro e _ ⟨rfl,rfl⟩;have hd:decide ((z7 s[k]:Int)=4)=zbk s[k]:=zbX (b:=4);refine biE (fun hi=>?_) fun hi=>?_
  ·have hi:zbk s[k]=false:=by
    have h1:(!decide ((z7 s[k]:Int)=4))=true:=hi;rw [hd] at h1;simpa using h1
   have:s.all zbk=false:=by
    rw [KM];exact⟨s[k],gM _,by rw [hi];simp⟩
   exact⟨0,by rw [this];rfl,rfl⟩
  ·have hi:zbk s[k]=true:=by
    have h1:(!decide ((z7 s[k]:Int)=4))=false:=hi;rw [hd] at h1;simpa using h1
   obtain⟨d1,d2⟩:=zr2 hi;have hv3:zdZ (s.take k)<1000:=nL hv (by
    have:k<=3:=(by omega);exact Kb (by decide) this)
   have hsn:=znS hl;refine⟨((10*zdZ (s.take k):Nat):Int),(zi (by omega)).trans (by omega),k,rfl,hl,s[k],zcr hl,((s[k].toNat-48:Nat):Int),(zf1 (by omega)).trans (by omega),((s[k].toNat-48:Nat):Int),(zi (by omega)).trans (by omega),(zdZ (s.take (k+1)):Int),(zi (by omega)).trans (by omega),(k+1:Nat),(zi (by omega)).trans (by omega),k+1,(cvE rfl rfl),⟨hl,?_,?_,rfl⟩,zdc (by omega)⟩
   ·rw [tsg hl];intro c hc;rcases QU.1 hc with hc | hc
    ·exact hdg c hc
    ·simp only [KA] at hc;rw [hc];exact hi
   ·rw [hsn,Nat.pow_succ];omega
 ·have hc:¬ (k:Int)<(s.length:Int):=dF hc;obtain rfl:k=s.length:=by omega
  rw [Qx] at hdg hv;have ha:s.all zbk=true:=Qk.2 hdg;rw [ha,Qx];have hv3:zdZ s<1000:=nL hv (Kb (by decide) h2);refine biE (fun h5=>?_) fun h5=>?_
  ·have h5:(255:Int)<(zdZ s:Int):=dT h5;exact⟨0,by rw [Uj (by omega)];rfl,rfl⟩
  ·have h5:¬ (255:Int)<(zdZ s:Int):=dF h5;exact⟨((UInt8.ofNat (zdZ s)).toNat:Int),(zf1 (by omega)).trans (by rw [KH];omega),UInt8.ofNat (zdZ s),by rw [Ut (by omega)];rfl,rfl⟩
theorem ztr {t:Tok} (h:t.kind=3) (hl:0<t.text.length):jb t=if z7 t.text[0]=6 then 0 else 40:=by
 obtain⟨k,x,p⟩:=t;have h:k=3:=h;subst h
 cases x with
 | nil=>exact Gy hl (Nat.lt_irrefl 0)
 | cons a r=>rfl
theorem zrC (t:Tok) (ht:t.kind=3->t.text≠[]) (hs:t.text.length<=140737488351232) (w:Wd):CB 272 #[.agg (q5.enc t).toArray] w (i64 (jb t)):=by
 refine zD 30 [.agg (q5.enc t).toArray] Tryz.func272 ?_;have hb0:Bw w (w.alloc (.cells (q5.enc t).toArray 311)):=zba _ _;have f0:=zA w (.cells (q5.enc t).toArray 311);have c0:zo (w.alloc (.cells (q5.enc t).toArray 311)) ⟨w.heap.size,0,none⟩ [u8 t.kind,zn t.text,i64 t.pos]:=za f0;have kd:∀ k:UInt8,decide ((t.kind.toNat:Int)=(k.toNat:Int))=decide (t.kind=k):=fun k=>by
  rw [QH];exact qV
 refine⟨_,zc c0 (i:=0) rfl,biE (fun h1=>?_) fun h1=>?_⟩
 ·have h1:t.kind=1:=dT ((kd 1).symm.trans h1);have e:jb t=if 16<t.text.length then 42 else 0:=by unfold jb;rw [Gx h1]
  rw [e];refine⟨_,zc c0 (i:=1) rfl,biE (fun h2=>?_) fun h2=>?_⟩
  ·have h2:(16:Int)<(t.text.length:Int):=dT h2;exact⟨by rw [Gx (by omega)];rfl,hb0⟩
  ·have h2:¬ (16:Int)<(t.text.length:Int):=dF h2;exact⟨by rw [Gw (by omega)];rfl,hb0⟩
 have h1:¬ t.kind=1:=dF ((kd 1).symm.trans h1);refine biE (fun h2=>?_) fun h2=>?_
 ·have h2:t.kind=2:=dT ((kd 2).symm.trans h2);have e:jb t=if zi4 t.text then 0 else 41:=by unfold jb;rw [Gw h1,Gx h2]
  rw [e];refine⟨_,zc c0 (i:=1) rfl,cmo (zvi t.text hs _) ?_⟩;rintro e _ ⟨v,rfl,rfl⟩;refine biE (fun h3=>?_) fun h3=>?_
  ·have h3:(!zi4 t.text)=true:=h3;have h3:zi4 t.text=false:=by simpa using h3
   exact⟨by rw [h3];rfl,hb0⟩
  ·have h3:(!zi4 t.text)=false:=h3;have h3:zi4 t.text=true:=by simpa using h3
   exact⟨by rw [h3];rfl,hb0⟩
 have h2:¬ t.kind=2:=dF ((kd 2).symm.trans h2);refine biE (fun h3=>?_) fun h3=>?_
 ·have h3:t.kind=3:=dT ((kd 3).symm.trans h3);have hne:=ht h3;have hl:0<t.text.length:=List.length_pos_iff.2 hne;have e:jb t=if z7 t.text[0]=6 then 0 else 40:=ztr h3 hl
  rw [e];refine⟨_,zc c0 (i:=1) rfl,0,rfl,hl,t.text[0],zcr hl,cmo (jO _ _) ?_⟩;rintro e _ ⟨rfl,rfl⟩;refine biE (fun h4=>?_) fun h4=>?_
  ·have h4:(!decide ((z7 t.text[0]:Int)=6))=true:=h4;have h4:¬ z7 t.text[0]=6:=by simp at h4;omega
   exact⟨by rw [Gw h4];rfl,hb0⟩
  ·have h4:(!decide ((z7 t.text[0]:Int)=6))=false:=h4;have h4:z7 t.text[0]=6:=by simp at h4;omega
   exact⟨by rw [Gx h4];rfl,hb0⟩
 have h3:¬ t.kind=3:=dF ((kd 3).symm.trans h3);exact⟨by unfold jb;rw [Gw h1,Gw h2,Gw h3];rfl,hb0⟩
theorem zft {a b c:Wd} {g r:Nat} (h:a.grownBy b (some g)) (k:b.grownBy c (some r)) (hr:a.heap.size<=r):a.grownBy c (some g) :=
 ⟨k.os.trans h.os,k.tape.trans h.tape,k.output.trans h.output,UT h.size k.size,fun i hi hne=>(k.block i (nL hi h.size) (fun e=>by simp only [KZ] at e;omega)).trans (h.block i hi hne)⟩
theorem zri {x y:Int} {T:Array TypeId} {t:TypeId} {w:Wd} {K:Value->Wd->Prop} (k:K (.int .i64 (if y<x then y else x)) w):SatR ((Builtin.min_ T t [Value.int .i64 x,.int .i64 y].toArray).run PG w) K :=
 SatR.mk (v := .int .i64 (if y<x then y else x)) (w':=w) (by simp [Builtin.min_,Builtin.min2]) k
section
variable {s:List UInt8} {f a:Nat} {op:Bool}
theorem zki (h:zF s a<s.length) (h2:¬ z7 s[zF s a]=2):zae s (f+1) a op=some (zjI s (zF s a) s[zF s a],zaN s (zF s a) s[zF s a],true):=by
 unfold zae;rw [gE h];simp only [Gw h2]
theorem zgT (h:jT s (zF s a)=true):zae s (f+1) a true=some (⟨4,[],zF s a⟩,min (zF s a+1) s.length,false):=by
 unfold zae;by_cases hp:zF s a<s.length
 ·rw [zcs hp] at h;have h:=dT h;rw [gE hp];simp only [Gx h];rfl
 ·rw [JJ (by omega)];rfl
theorem zik (h:s.length<=zF s a):zae s (f+1) a false=none:=by
 unfold zae;rw [JJ h];rfl
theorem zil (h:zF s a<s.length) (h2:z7 s[zF s a]=2):zae s (f+1) a false=zae s f (min (zF s a+1) s.length) false:=by
 conv=>lhs;unfold zae
 rw [gE h];simp only [Gx h2];rfl
theorem zmF:a<=zF s a:=by
 have h1:a<=zb1 s a:=Qy _ _;unfold zF
 split
 ·split
  ·omega
  ·exact h1
 ·exact h1
end
def zjy:Tok:=⟨0,[],0⟩
theorem zpn {g a:Nat} {s:List UInt8} {op:Bool} {w:Wd} (h:ScV w g s a op) (ha:a<=s.length) (hs:s.length<=140737488351232) :
  Calls PG 271 #[At0 g] w fun e w'=>∃ t a' op' ok,e = .returned (.tuple #[.agg (q5.enc t).toArray,.bool ok])/\(ok=true->zae s (s.length+2) a op=some (t,a',op'))/\(ok=false->zae s (s.length+2) a op=none) /\
   a'<=s.length/\ScV w' g s a' op'/\w.grownBy w' (some g):=by
 refine zD 57 [At0 g] Tryz.func271 ?_;obtain⟨r,hr⟩:=nm (w.heap.size);have hgl:g<r:=by rw [hr];exact hlt h
 obtain⟨W0,hW0⟩:=nm (w.alloc (.cells (q5.enc zjy).toArray 311));have hb0:Bw w W0:=by rw [hW0];exact (zba _ _)
 have f0:W0.heap[r]?=some (.cells (q5.enc zjy).toArray 311 (0,0)):=by rw [hW0,hr];exact zA w _
 have h0:ScV W0 g s a op:=h.below hb0;refine⟨Nat×Nat×Bool,fun k=>⟨[(0,At0 g),(2,At0 r)],[]⟩,fun k X=>s.length+1<=k.1+k.2.1/\k.2.1<=s.length/\zae s (k.1+1) k.2.1 k.2.2=zae s (s.length+2) a op/\ScV X g s k.2.1 k.2.2/\w.grownBy X (some g)/\X.heap[r]?=some (.cells (q5.enc zjy).toArray 311 (0,0)),
  fun k=>s.length-k.2.1,(s.length+1,a,op),⟨.cons rfl (.cons (by rw [hr];rfl) .nil),rfl⟩,⟨by omega,ha,rfl,by subst hW0;exact h0,by subst hW0;exact zh hb0,by subst hW0;exact f0⟩,?_⟩
 clear hW0 hb0 f0 h0 W0;rintro⟨f,k,o⟩ X ⟨hf,hk,hn,hX,gX,fX⟩;dsimp only at hf hk hn hX gX fX ⊢;have fillR:∀ (t:Tok) (Y:Wd),Y.heap[r]?=some (.cells (q5.enc zjy).toArray 311 (0,0))->∀ (K:Wd->Prop),(∀ R,R.heap[r]?=some (.cells (q5.enc t).toArray 311 (0,0))->Y.grownBy R (some r)->K R) ->
   SatR ((storeVar 311 ⟨r,0,none⟩ (.agg (q5.enc t).toArray)).run PG Y) fun _ w'=>K w':=fun t Y fY K q =>
  zy (v := .agg (q5.enc t).toArray) zkt fY rfl rfl rfl (q _ (zq fY) (qq Y _ _))
 have keepR:∀ {A B:Wd},A.grownBy B (some g)->A.heap[r]?=some (.cells (q5.enc zjy).toArray 311 (0,0))->B.heap[r]?=some (.cells (q5.enc zjy).toArray 311 (0,0)):=fun hg hA=>(hg.block _ (hlt hA) (fun e=>by simp only [KZ] at e;omega)).trans hA;have keepS:∀ {A B:Wd} {a:Nat} {o:Bool} {q:Nat},A.grownBy B (some q)->g≠q->ScV A g s a o->ScV B g s a o:=fun hg hq hA=>(hg.block _ (hlt hA) (fun e=>hq (by simpa using e))).trans hA;refine cmo (zs8 hX hk hs) ?_;rintro e Y ⟨⟨v,rfl⟩,hY,gY⟩;have hp:=zmE (s:=s) hk;have hpk:=zmF (s:=s) (a:=k);have fY:=keepR gY fX;have gwY:=zg gX gY;refine cmo (zm9 hY.cells (hlt hY)) ?_;rintro e Z ⟨rfl,hbZ⟩;have hZ:=hY.below hbZ;have gwZ:=zgk gwY hbZ;have fZ:=zb hbZ fY;refine biE (fun hc=>?_) fun hc=>?_
 ·have hc:jT s (zF s k)=false:=by
   have h1:(!jT s (zF s k))=true:=hc;simpa using h1
  have hl:zF s k<s.length:=by
   by_cases h1:zF s k<s.length
   ·exact h1
   ·rw [zhy (by omega)] at hc;cases hc
  rw [zcs hl] at hc;have hc:=dF hc;rw [zki hl hc] at hn;refine zjX hZ true fun U hU gU sU=>?_;have gwU:=zg gwZ gU;have fU:=keepR gU fZ;refine cmo (zqS hU hl hs) ?_;rintro e V ⟨rfl,hV,gV⟩;have gwV:=zg gwU gV;exact fillR _ V (keepR gV fU) _ fun R fR gR=>⟨_,rfl,za fR,_,_,_,true,rfl,fun _=>hn.symm,fun h=>(by cases h),(zlW hl _).2,keepS gR (by omega) hV,zft gwV gR (by omega)⟩
 have hc:jT s (zF s k)=true:=by
  have h1:(!jT s (zF s k))=false:=hc;simpa using h1
 refine⟨_,zc hZ.cells (i:=1) rfl,q5.enc ⟨4,[],zF s k⟩,rfl,zk (X:=Z) (v := .agg (q5.enc ⟨4,[],zF s k⟩).toArray) zkt rfl rfl rfl fun U hbU fU4 sU=>?_⟩;have fU4:U.heap[Z.heap.size]?=some (.cells (q5.enc ⟨4,[],zF s k⟩).toArray 311 (0,0)):=fU4;have hU:=hZ.below hbU;have gwU:=zgk gwZ hbU;have fU:=zb hbU fZ;have hzs:r<Z.heap.size:=hlt fZ;refine cmo (zi1 hU.cells) ?_;rintro e V ⟨rfl,hbV⟩;have hV:=hU.below hbV;have gwV:=zgk gwU hbV;have fV:=zb hbV fU;have fV4:=zb hbV fU4;refine DrawE.ord [17] [0,1,2,3,4,5,6,7,8,9,10,11,12,13,14,15,16,17] (by kernel_rfl) ?_;have hVd:ScV V.drew g s (zF s k) o:=hV;refine⟨_,zc hVd.cells (i:=1) rfl,(zF s k+1:Nat),(zi (by omega)).trans (by omega),_,zc hVd.cells (i:=0) rfl,zri ⟨Gh _ _,?_⟩⟩;have hmin:(if ((s.length:Nat):Int)<((zF s k+1:Nat):Int) then ((s.length:Nat):Int) else ((zF s k+1:Nat):Int))=((min (zF s k+1) s.length:Nat):Int):=by
  split <;> omega
 have e5:Value.int .i64 (if (((bs s).size:Nat):Int)<((zF s k+1:Nat):Int) then (((bs s).size:Nat):Int) else ((zF s k+1:Nat):Int))=i64 (min (zF s k+1) s.length:Nat):=by
  rw [show (bs s).size=s.length from rfl,hmin];rfl
 rw [e5];refine zfg hVd (min (zF s k+1) s.length) fun R hR gR sR=>?_;have gwR:=zg (zg gwV (zh (Gh _ V).drew)) gR;have fR:=keepR gR (hdr fV);have fR4:R.heap[Z.heap.size]?=some (.cells (q5.enc ⟨4,[],zF s k⟩).toArray 311 (0,0)):=(gR.block _ (hlt (hdr fV4)) (fun e=>by simp only [KZ] at e;omega)).trans (hdr fV4);refine⟨_,zc (za hR) (i:=2) rfl,biE (fun ho=>?_) fun ho=>?_⟩
 ·have ho:o=true:=ho;subst ho;rw [zgT hc] at hn;refine zjX hR false fun T hT gT sT=>?_;have gwT:=zg gwR gT;have fT:=keepR gT fR;have fT4:T.heap[Z.heap.size]?=some (.cells (q5.enc ⟨4,[],zF s k⟩).toArray 311 (0,0)):=(gT.block _ (hlt fR4) (fun e=>by simp only [KZ] at e;omega)).trans fR4;exact⟨_,rfl,za fT4,hlt fT4,fillR ⟨4,[],zF s k⟩ T fT _ fun L fL gL=>⟨_,rfl,za fL,_,_,_,true,rfl,fun _=>hn.symm,fun h=>(by cases h),QB _ _,keepS gL (by omega) hT,zft gwT gL (by omega)⟩⟩
 ·have ho:o=false:=ho;subst ho;refine biE (fun h5=>?_) fun h5=>?_
  ·have h5:s.length<=zF s k:=dT h5;rw [zik h5] at hn;exact⟨q5.enc zjy,rfl,fillR zjy R fR _ fun L fL gL=>⟨_,rfl,za fL,_,_,_,false,rfl,fun h=>(by cases h),fun _=>hn.symm,QB _ _,keepS gL (by omega) hR,zft gwR gL (by omega)⟩⟩
  ·have h5:¬ s.length<=zF s k:=dF h5;have hl:zF s k<s.length:=by omega
   have h2:z7 s[zF s k]=2:=by rw [zcs hl] at hc;exact dT hc
   rw [zil hl h2] at hn;have hmn:min (zF s k+1) s.length=zF s k+1:=Uc (by omega);obtain⟨f',rfl⟩:∃ f',f=f'+1:=⟨f-1,by omega⟩;exact⟨(f',min (zF s k+1) s.length,false),(cvE rfl rfl),⟨by show _<=f'+min _ _;omega,QB _ _,hn,hR,gwR,fR⟩,by show s.length-min _ _<s.length-k;omega⟩
def bOp (op:Bool):Nat:=if op then 1 else 0
theorem zlC {s:List UInt8} {f a a':Nat} {op op':Bool} {t:Tok} (h:zae s (f+1) a op=some (t,a',op')) :
  (∃ hl:zF s a<s.length,t=zjI s (zF s a) s[zF s a]/\a'=zaN s (zF s a) s[zF s a]/\op'=true)\/(op=true/\t=⟨4,[],zF s a⟩/\a'=min (zF s a+1) s.length/\op'=false) \/
   (op=false/\zF s a<s.length/\zae s f (min (zF s a+1) s.length) false=some (t,a',op')):=by
 by_cases hp:zF s a<s.length
 ·by_cases h2:z7 s[zF s a]=2
  ·cases op with
   | true =>
    rw [zgT (by rw [zcs hp];exact Ut h2)] at h;simp only [KZ,UJ] at h;exact .inr (.inl ⟨rfl,h.1.symm,h.2.1.symm,h.2.2.symm⟩)
   | false =>
    rw [zil hp h2] at h;exact .inr (.inr ⟨rfl,hp,h⟩)
  ·rw [zki hp h2] at h;simp only [KZ,UJ] at h;exact .inl ⟨hp,h.1.symm,h.2.1.symm,h.2.2.symm⟩
 ·cases op with
  | true =>
   rw [zgT (zhy (by omega))] at h;simp only [KZ,UJ] at h;exact .inr (.inl ⟨rfl,h.1.symm,h.2.1.symm,h.2.2.symm⟩)
  | false=>rw [zik (by omega)] at h;cases h
theorem zc9 {s:List UInt8} {t:Tok} {a':Nat} {op':Bool}:∀ {f a:Nat} {op:Bool},zae s f a op=some (t,a',op')->a<=s.length ->
  a'<=s.length/\2*(s.length-a')+bOp op'<2*(s.length-a)+bOp op/\(t.kind=3->t.text≠[])/\t.text.length<=s.length
 | 0,_,_,h,_=>by cases h
 | f+1,a,op,h,ha=>by
  have hpa:=zmF (s:=s) (a:=a);have hpl:=zmE ha;rcases zlC h with ⟨hl,rfl,rfl,rfl⟩ | ⟨rfl,rfl,rfl,rfl⟩ | ⟨rfl,hl,h'⟩
  ·obtain⟨e1,e2⟩:=zlW hl s[zF s a];refine⟨e2,?_,fun _=>?_,?_⟩
   ·have:bOp true=1:=rfl;omega
   ·intro he;have h1:((s.drop (zF s a)).take (zaN s (zF s a) s[zF s a]-zF s a)).length=0:=by
     have:(zjI s (zF s a) s[zF s a]).text=[]:=he;exact Gq List.length this
    rw [Qv,Qu] at h1;omega
   ·show ((s.drop (zF s a)).take _).length<=_;rw [Qv,Qu];omega
  ·refine⟨QB _ _,?_,fun h=>(by cases h),Ge _⟩;have h1:bOp true=1:=rfl;have h0:bOp false=0:=rfl;omega
  ·obtain⟨h1,h2,h3⟩:=zc9 h' (QB _ _);refine⟨h1,?_,h3⟩;omega
theorem zhX {s:List UInt8} {f a a':Nat} {op op':Bool} {t:Tok} (h:zae s (s.length+2) a op=some (t,a',op')):zcf s (f+1) a op=t::zcf s f a' op':=by
 show (match zae s (s.length+2) a op with
  | some (t,a',op')=>t::zcf s f a' op'
  | none=>[])=_
 rw [h]
theorem zhW {s:List UInt8} {f a:Nat} {op:Bool} (h:zae s (s.length+2) a op=none):zcf s (f+1) a op=[]:=by
 show (match zae s (s.length+2) a op with
  | some (t,a',op')=>t::zcf s f a' op'
  | none=>[])=_
 rw [h]
def StT (pre:List Tok) (vs:List Value) (_:Wd):Prop:=∃ t,pre.getLast?=some t/\vs=[.agg (q5.enc t).toArray,i64 (jb t)]
theorem zoE {g:Nat} {w:Wd}:Calls PG 238 #[At0 g] w fun e w'=>e = .returned (.func (.func 270) #[] #[.pointer (some ⟨w.heap.size,0,none⟩)])/\w'=w.alloc (.cells #[At0 g] 354):=by
 refine zD 4 [At0 g] Tryz.func238 ?_;exact⟨rfl,rfl⟩
theorem znl {g bx:Nat} {s:List UInt8} {W0:Wd} (h:ScV W0 g s 0 false) (hbx:W0.heap[bx]?=some (.cells #[At0 g] 354 (0,0))) (hne:bx≠g) (hs:s.length<=140737488351232) :
  zsJ PG 270 [At0 bx] (qH s) W0 (fun k=>k=bx) (fun k=>k=g) StT:=by
 intro yl Fp J Jx W hsz hrd hrf hJ hJx hy h0;have hbW:W.heap[bx]?=some (.cells #[At0 g] 354 (0,0)):=(hrd bx (.inl rfl)).trans hbx;have hgW:ScV W g s 0 false:=(hrd g (.inr rfl)).trans h;have hbs:bx<W0.heap.size:=hlt hbx;have hgs:g<W0.heap.size:=hlt h;refine zD 23 [.func (.yield yl) #[] #[],At0 bx] Tryz.func270 ?_
 let Inv:List Tok->Wd->Prop:=fun pre X=>J pre X/\W.heap.size<=X.heap.size/\X.heap[bx]?=some (.cells #[At0 g] 354 (0,0))/\¬ Fp X bx
 have stepG:∀ pre X Y,Inv pre X->X.grownBy Y (some g)->Inv pre Y/\∀ k,Fp Y k->Fp X k:=fun pre X Y ⟨h1,h2,h3,h4⟩ hg=>by
  have hst:StepO W.heap.size (fun k=>k=g) Fp X Y:=⟨hg.os,hg.tape,hg.output,hg.size,fun k hk hf=>hg.block k hk (fun e=>by
   have e:g=k:=(by simpa using e:k=g).symm;rcases hf with hf | hf
   ·exact hf.2 e.symm
   ·exact (hJ.lt _ _ _ h1 hf).2 e.symm)⟩
  obtain⟨j1,j2⟩:=hJ.step _ _ _ h1 hst;refine⟨⟨j1,UT h2 hg.size,(hg.block _ (hlt h3) (fun e=>hne (by simpa using e))).trans h3,fun hf=>h4 (j2 _ hf)⟩,j2⟩
 have stepB:∀ pre X Y,Inv pre X->Bw X Y->Inv pre Y/\∀ k,Fp Y k->Fp X k:=fun pre X Y hI hb=>stepG pre X Y hI (zh hb);have I0:Inv [] W:=⟨h0,Gc _,hbW,hrf bx rfl⟩;refine⟨_,zc (za hbW) (i:=0) rfl,cmo (zpn hgW (Ge _) hs) ?_⟩;rintro e Y ⟨t,a,op,ok,rfl,hok,hno,ha,hY,gY⟩;obtain⟨I1,_⟩:=stepG [] W Y I0 gY;refine zk (X:=Y) (v := .agg (q5.enc t).toArray) zkt rfl rfl rfl fun Z hbZ fZ sZ=>?_;have fZ:Z.heap[Y.heap.size]?=some (.cells (q5.enc t).toArray 311 (0,0)):=fZ;obtain⟨I2,q2⟩:=stepB [] Y Z I1 hbZ;refine⟨List Tok×Nat×Nat×Bool×Bool×Tok×Nat,fun q=>⟨[(0,.func (.yield yl) #[] #[]),(1,At0 bx),(3,.pointer (some ⟨q.2.2.2.2.2.2,0,none⟩)),(4,.bool q.2.2.2.2.1)],[]⟩,
  fun q X=>Inv q.1 X/\(q.2.2.2.2.1=true->qH s=q.1++q.2.2.2.2.2.1::zcf s q.2.1 q.2.2.1 q.2.2.2.1)/\(q.2.2.2.2.1=false->qH s=q.1)/\(q.2.2.2.2.1=true->2*(s.length-q.2.2.1)+bOp q.2.2.2.1<q.2.1)/\q.2.2.1<=s.length/\ScV X g s q.2.2.1 q.2.2.2.1 /\
   X.heap[q.2.2.2.2.2.2]?=some (.cells (q5.enc q.2.2.2.2.2.1).toArray 311 (0,0))/\W.heap.size<=q.2.2.2.2.2.2/\¬ Fp X q.2.2.2.2.2.2/\(q.2.2.2.2.1=true->(q.2.2.2.2.2.1.kind=3->q.2.2.2.2.2.1.text≠[])/\q.2.2.2.2.2.1.text.length<=s.length),
  fun q=>q.2.1,([],2*s.length+2,a,op,ok,t,Y.heap.size),(cvE rfl rfl),⟨I2,?_,?_,?_,ha,hY.below hbZ,fZ,gY.size,?_,?_⟩,?_⟩
 ·intro h1;exact zhX (hok h1)
 ·intro h1;exact zhW (hno h1)
 ·intro h3;have:=(zc9 (hok h3) (Ge _)).2.1;have h0:bOp false=0:=rfl;dsimp only;omega
 ·intro hf;have h9:Y.heap.size<Y.heap.size:=(hJ.lt _ _ _ I1.1 (q2 _ hf)).1;omega
 ·intro h1;exact (zc9 (hok h1) (Ge _)).2.2
 clear I2 q2 fZ hbZ sZ I1 gY hY hok hno ha;rintro⟨pre,f,a,op,ok,t,tb⟩ X ⟨hI,h1,h2,hf,ha,hX,ft,htb,hft,hgd⟩;dsimp only at hI h1 h2 hf ha hX ft htb hft hgd ⊢;refine biE (fun hok=>?_) fun hok=>?_
 ·have hok:ok=true:=hok;subst hok;have h1:=h1 rfl;have hf:=hf rfl;obtain⟨g1,g2⟩:=hgd rfl;have hpre:(pre++[t]) <+: qH s:=⟨zcf s f a op,by rw [h1];simp⟩;refine DrawE.ord [4] [0,1,2,3,4,5] (by kernel_rfl) ⟨_,rfl,za (hdr ft),hlt (hdr ft),_,rfl,za (hdr ft),hlt (hdr ft),cmo (zrC t g1 (by omega) X.drew) ?_⟩;rintro e U ⟨rfl,hbU⟩;refine⟨hbU,?_⟩;have hXU:Bw X U:=(Gh _ X).drew.trans hbU;obtain⟨IU,qU⟩:=stepB pre X U hI hXU;have fU:=zb hXU ft;have hU:=hX.below hXU;have hftU:¬ Fp U tb:=fun h=>hft (qU _ h);refine YieldR.mono (hy pre t _ U IU.1 ⟨t,by simp,rfl⟩ hpre) ?_;rintro v V (⟨rfl,hJV,hKV⟩ | ⟨rfl,hJV⟩)
  ·refine Gm (fun h=>by cases h) (fun _=>?_);have IU':=IU;obtain⟨_,iu2,iu3,iu4⟩:=IU';have hUs:=hKV.size;have hgF:¬ Fp U g:=fun h=>(hJ.lt _ _ _ IU.1 h).2 rfl;have hbV:V.heap[bx]?=_:=(hKV.same bx (hlt iu3) iu4).trans iu3;have hV:ScV V g s a op:=(hKV.same g (hlt hU) hgF).trans hU;have fV:=(hKV.same tb (hlt fU) hftU).trans fU;have nF:∀ k,k<U.heap.size->¬ Fp U k->¬ Fp V k:=fun k hk h1 h2=>by
    rcases hKV.fp k h2 with h3 | h3
    ·exact h1 h3
    ·omega
   have IV:Inv (pre++[t]) V:=⟨hJV,by omega,hbV,nF bx (hlt iu3) iu4⟩;refine⟨_,rfl,za fV,hlt fV,zk (X:=V) (v := .agg (q5.enc t).toArray) zkt rfl rfl rfl fun R hbR fR sR=>?_⟩;have fR:R.heap[V.heap.size]?=some (.cells (q5.enc t).toArray 311 (0,0)):=fR;obtain⟨IR,qR⟩:=stepB (pre++[t]) V R IV hbR;have hnR:¬ Fp R V.heap.size:=fun h=>by have:=(hJ.lt _ _ _ IV.1 (qR _ h)).1;omega
   refine⟨_,zc (za IR.2.2.1) (i:=0) rfl,cmo (zpn (hV.below hbR) ha hs) ?_⟩;rintro e L ⟨t',a',op',ok',rfl,hok',hno',ha',hL,gL⟩;obtain⟨IL,qL⟩:=stepG (pre++[t]) R L IR gL;have hVs:W.heap.size<=V.heap.size:=IV.2.1;have hgV:g≠V.heap.size:=by omega
   have hbV2:bx≠V.heap.size:=by omega
   have fL:L.heap[V.heap.size]?=some (.cells (q5.enc t).toArray 311 (0,0)):=(gL.block _ (hlt fR) (fun e=>hgV (by simpa using e.symm))).trans fR;refine zy (v := .agg (q5.enc t').toArray) zkt fL rfl rfl rfl ?_;obtain⟨f',rfl⟩:∃ f',f=f'+1:=⟨f-1,by omega⟩;have hnL:¬ Fp L V.heap.size:=fun h=>hnR (qL _ h);have hst:StepO W.heap.size (fun k=>k=g) Fp L (L.setRow V.heap.size (Value.agg (q5.enc t').toArray).cells):=⟨rfl,rfl,rfl,by simp,fun k hk hf=>zt (fun e=>by
    subst e;rcases hf with hf | hf
    ·omega
    ·exact hnL hf)⟩
   obtain⟨j1,j2⟩:=hJ.step _ _ _ IL.1 hst;refine⟨(pre++[t],f',a',op',ok',t',V.heap.size),(cvE rfl rfl),⟨⟨j1,by simp;exact IL.2.1,(zt hbV2).trans IL.2.2.1,fun h=>IL.2.2.2 (j2 _ h)⟩,?_,?_,?_,ha',(zt hgV).trans hL,zq fL,hVs,fun h=>hnL (j2 _ h),?_⟩,by show f'<f'+1;omega⟩
   ·intro h3;rw [h1];show pre++t::zcf s (f'+1) a op=(pre++[t])++_;rw [zhX (hok' h3)];simp
   ·intro h3;rw [h1];show pre++t::zcf s (f'+1) a op=pre++[t];rw [zhW (hno' h3)]
   ·intro h3;have:=(zc9 (hok' h3) ha).2.1;dsimp only;omega
   ·intro h3;exact (zc9 (hok' h3) ha).2.2
  ·exact Gm (fun _=>Gm ⟨_,rfl⟩ (.inr ⟨_,hpre,hJV⟩)) (fun h=>by cases h)
 ·have hok:ok=false:=hok;subst hok;have h2:=h2 rfl;exact⟨⟨_,rfl⟩,.inl (by rw [h2];exact hI.1)⟩
def zdg (s:List UInt8):Bool:=decide (s.length<=16384)&&(qH s).all (fun t=>decide (jb t=0))
theorem zjH {s:List UInt8}:∀ {f a:Nat} {op:Bool},(zcf s f a op).length<=f
 | 0,_,_=>Gc _
 | f+1,a,op=>by
  unfold zcf
  split
  ·exact Nat.succ_le_succ zjH
  ·exact Ge _
def FpX (L:Nat) (X:Wd) (k:Nat):Prop:=k=L\/k=L+1\/k=L+2\/∃ a n cap,X.heap[L]?=some (.cells #[.slice (some a) n cap] 306 (0,0))/\k=a.block
structure ResX (L:Nat) (X:Wd) (v:Value) (pl er:Int):Prop where
 l:X.heap[L]?=some (.cells #[v] 306 (0,0))
 p:X.heap[L+1]?=some (.cells #[i64 pl] 3 (0,0))
 e:X.heap[L+2]?=some (.cells #[i64 er] 42 (0,0))
def JX (w:Wd) (L B:Nat) (pre:List Tok) (X:Wd):Prop:=Bw w X/\(∀ t∈pre,jb t=0)/\∃ p cap,ResX L X (.slice p pre.length cap) 0 0/\OwnS q5 311 B X p cap pre
def JxX (w:Wd) (L:Nat) (pre:List Tok) (X:Wd):Prop:=Bw w X/\(∃ t∈pre,jb t≠0)/\∃ pl er,ResX L X (.slice none 0 0) pl er/\er≠0
theorem FpX.row {L:Nat} {X:Wd} {p:OA} {n cap:Nat} {pl er:Int} (h:ResX L X (.slice p n cap) pl er) {k:Nat} (hf:FpX L X k):k=L\/k=L+1\/k=L+2\/∃ a,p=some a/\k=a.block:=by
 rcases hf with hf | hf | hf | ⟨a,n',cap',h1,h2⟩
 ·exact .inl hf
 ·exact .inr (.inl hf)
 ·exact .inr (.inr (.inl hf))
 ·have:=h.l;rw [h1] at this;simp at this;exact .inr (.inr (.inr ⟨a,this.1.symm,h2⟩))
theorem ResX.same {L:Nat} {A B:Wd} {v:Value} {pl er:Int} (h:ResX L A v pl er) (hs:∀ k,k=L\/k=L+1\/k=L+2->B.heap[k]?=A.heap[k]?):ResX L B v pl er :=
 ⟨(hs L (.inl rfl)).trans h.l,(hs _ (.inr (.inl rfl))).trans h.p,(hs _ (.inr (.inr rfl))).trans h.e⟩
theorem JX.iter {w:Wd} {L B n0 g:Nat} (hw:w.heap.size<=L) (hL:L+2<g) (hg:g<n0) (hB:B=n0):IterJO n0 (fun k=>k=g) (FpX L) (JX w L B):=by
 subst hB;refine⟨fun pre A C ⟨hb,hf,p,cap,hr,ho⟩ hs=>?_,fun pre A k ⟨hb,hf,p,cap,hr,ho⟩ hk=>?_⟩
 ·have hr':ResX L C (.slice p pre.length cap) 0 0:=hr.same fun k hk=>hs.same k (by rcases hk with rfl | rfl | rfl;exact hlt hr.l;exact hlt hr.p;exact hlt hr.e) (.inl ⟨by omega,by omega⟩);have zb7:∀ a,p=some a->C.heap[a.block]?=A.heap[a.block]?:=fun a ha=>by
   rcases ho.inv with ⟨rfl,_⟩ | ⟨g',cur,rfl,_,hg',_⟩
   ·cases ha
   ·cases ha
    exact hs.same _ (hlt hg') (.inr (.inr (.inr (.inr ⟨_,_,_,hr.l,rfl⟩))))
  refine⟨⟨⟨hs.os.trans hb.os,hs.tape.trans hb.tape,hs.output.trans hb.output,UT hb.size hs.size,fun k hk=>(hs.same k (nL hk hb.size) (.inl ⟨by omega,by omega⟩)).trans (hb.block k hk)⟩,hf,p,cap,hr',ho.same zb7⟩,fun k hk=>?_⟩;rcases FpX.row hr' hk with rfl | rfl | rfl | ⟨a,rfl,rfl⟩
  ·exact .inl rfl
  ·exact .inr (.inl rfl)
  ·exact .inr (.inr (.inl rfl))
  ·exact .inr (.inr (.inr ⟨_,_,_,hr.l,rfl⟩))
 ·rcases FpX.row hr hk with rfl | rfl | rfl | ⟨a,rfl,rfl⟩
  ·exact⟨hlt hr.l,by omega⟩
  ·exact⟨hlt hr.p,by omega⟩
  ·exact⟨hlt hr.e,by omega⟩
  ·rcases ho.inv with ⟨h,_⟩ | ⟨g',cur,h,hB,hg',_⟩
   ·cases h
   ·cases h
    exact⟨hlt hg',by show ¬ g'=g;omega⟩
theorem JxX.iter {w:Wd} {L n0 g:Nat} (hw:w.heap.size<=L) (hL:L+2<g) (hg:g<n0):IterJO n0 (fun k=>k=g) (FpX L) (JxX w L):=by
 refine⟨fun pre A C ⟨hb,hf,pl,er,hr,he⟩ hs=>?_,fun pre A k ⟨hb,hf,pl,er,hr,he⟩ hk=>?_⟩
 ·have hr':ResX L C (.slice none 0 0) pl er:=hr.same fun k hk=>hs.same k (by rcases hk with rfl | rfl | rfl;exact hlt hr.l;exact hlt hr.p;exact hlt hr.e) (.inl ⟨by omega,by omega⟩);refine⟨⟨⟨hs.os.trans hb.os,hs.tape.trans hb.tape,hs.output.trans hb.output,UT hb.size hs.size,fun k hk=>(hs.same k (nL hk hb.size) (.inl ⟨by omega,by omega⟩)).trans (hb.block k hk)⟩,hf,pl,er,hr',he⟩,fun k hk=>?_⟩;rcases FpX.row hr' hk with rfl | rfl | rfl | ⟨a,h,_⟩
  ·exact .inl rfl
  ·exact .inr (.inl rfl)
  ·exact .inr (.inr (.inl rfl))
  ·cases h
 ·rcases FpX.row hr hk with rfl | rfl | rfl | ⟨a,h,_⟩
  ·exact⟨hlt hr.l,by omega⟩
  ·exact⟨hlt hr.p,by omega⟩
  ·exact⟨hlt hr.e,by omega⟩
  ·cases h
abbrev nl0:Value := .slice none 0 0
theorem zvk (s:List UInt8) (hs:s.length<=140737488351232) (w:Wd) :
  Calls PG 221 #[zn s] w fun e w'=>∃ p cap n pl er,e = .returned (.tuple #[.slice p n cap,i64 pl,i64 er])/\(zdg s=true->er=0/\n=(qH s).length/\SlR q5 w' p (qH s))/\(zdg s=false->er≠0)/\Bw w w':=by
 refine z6 27 [zn s] (.c .p (.c .p .p)) Tryz.func221 ?_;obtain⟨L,hL⟩:=nm (w.heap.size);have z1:(w.alloc (.cells #[nl0] 306)).heap.size=L+1:=by rw [wz,hL]
 have z2:((w.alloc (.cells #[nl0] 306)).alloc (.cells #[i64 0] 3)).heap.size=L+2:=by rw [wz,z1]
 obtain⟨W0,hW0⟩:=nm (((w.alloc (.cells #[nl0] 306)).alloc (.cells #[i64 0] 3)).alloc (.cells #[i64 0] 42));have hb0:Bw w W0:=by rw [hW0];exact (((zba _ _)).alloc (by simp) _).alloc (by rw [z2];omega) _
 have hs0:W0.heap.size=L+3:=by rw [hW0,wz,z2]
 have r0:ResX L W0 nl0 0 0:=by
  rw [hW0];refine⟨?_,?_,?_⟩
  ·rw [hL];exact qy _ (qy _ (zA w _))
  ·rw [<- z1];exact qy _ (zA _ _)
  ·rw [<- z2];exact zA _ _
 have p1:some (Value.pointer (some ⟨(w.alloc (.cells #[nl0] 306)).heap.size,0,none⟩))=some (At0 (L+1)):=by rw [z1]
 have p2:some (Value.pointer (some ⟨((w.alloc (.cells #[nl0] 306)).alloc (.cells #[i64 0] 3)).heap.size,0,none⟩))=some (At0 (L+2)):=by rw [z2]
 have put3:∀ (X:Wd) (v0:Value) (a0 b0:Int),ResX L X v0 a0 b0->∀ (pl er:Int) (K:Wd->Prop),(∀ Y,ResX L Y (.slice none 0 0) pl er->Below w.heap.size X Y->X.heap.size=Y.heap.size->(∀ k,k≠L->k≠L+1->k≠L+2->Y.heap[k]?=X.heap[k]?)->K Y) ->
   SatR ((storeVar 306 ⟨L,0,none⟩ (.slice none 0 0)).run PG X) fun _ Y1=>SatR ((storeVar 3 ⟨L+1,0,none⟩ (i64 pl)).run PG Y1) fun _ Y2=>SatR ((storeVar 42 ⟨L+2,0,none⟩ (i64 er)).run PG Y2) fun _ Y3=>K Y3:=by
  intro X v0 a0 b0 hr pl er K k;refine zy (v := .slice none 0 0) zrq hr.l rfl rfl rfl ?_;have q1:(X.setRow L (Value.slice none 0 0).cells).heap[L+1]?=some (.cells #[i64 a0] 3 (0,0)):=(zt (by omega)).trans hr.p;refine zy (v:=i64 pl) k3 q1 rfl rfl rfl ?_;have q2:((X.setRow L (Value.slice none 0 0).cells).setRow (L+1) (i64 pl).cells).heap[L+2]?=some (.cells #[i64 b0] 42 (0,0)):=(zt (by omega)).trans ((zt (by omega)).trans hr.e);refine zy (v:=i64 er) k42 q2 rfl rfl rfl (k _ ⟨?_,?_,zq q2⟩ ?_ (by simp) ?_)
  ·exact (zt (by omega)).trans ((zt (by omega)).trans (zq hr.l))
  ·exact (zt (by omega)).trans (zq q1)
  ·exact zl (zl (zl (Gh _ X) (by omega) _) (by omega) _) (by omega) _
  ·intro k h1 h2 h3;exact (zt h3).trans ((zt h2).trans (zt h1))
 refine⟨Unit,fun _=>⟨[(0,zn s),(2,At0 L),(3,At0 (L+1)),(4,At0 (L+2))],[]⟩,fun _ X=>W0=X,?_,?_⟩
 ·exact⟨(),⟨.cons rfl (.cons (by rw [hL];rfl) (.cons p1 (.cons p2 .nil))),rfl⟩,hW0⟩
 clear hW0 p1 p2 z1 z2;rintro _ _ rfl;refine⟨Unit,fun _=>⟨[(0,zn s),(2,At0 L),(3,At0 (L+1)),(4,At0 (L+2))],[]⟩,fun _ X=>s.length<=16384/\W0=X,?_,?_⟩
 ·refine biE (fun h=>?_) fun h=>?_
  ·have h:(16384:Int)<(s.length:Int):=dT h;have hno:zdg s=false:=by unfold zdg;rw [Uj (by omega)];rfl
   exact put3 W0 _ _ _ r0 0 3 _ fun Y hY hb hsz _=>⟨_,zc (za hY.l) (i:=0) rfl,_,zc (za hY.p) (i:=0) rfl,_,zc (za hY.e) (i:=0) rfl,none,0,0,0,3,rfl,fun h=>(by rw [hno] at h;cases h),fun _=>by decide,hb0.trans hb⟩
  ·have h:¬ (16384:Int)<(s.length:Int):=dF h;exact⟨(),(cvE rfl rfl),by omega,rfl⟩
 rintro _ _ ⟨hln,rfl⟩;refine⟨[zn s,i64 0],rfl,[zn s,i64 0,.bool false],rfl,zk (X:=W0) (v := .agg #[zn s,i64 0,.bool false]) zvO rfl rfl rfl fun V hbV fV sV=>?_⟩;have hV:ScV V W0.heap.size s 0 false:=fV;refine cmo zoE ?_;rintro e W1 ⟨rfl,hW1⟩;have sW1:W1.heap.size=W0.heap.size+2:=by rw [hW1,wz,sV]
 have hb1:Bw V W1:=by rw [hW1];exact (zba _ _)
 have hbx:W1.heap[W0.heap.size+1]?=some (.cells #[.pointer (some ⟨W0.heap.size,0,none⟩)] 354 (0,0)):=by
  rw [hW1,<- sV];exact zA V _
 have hg1:ScV W1 W0.heap.size s 0 false:=hV.below hb1;have hb01:Bw W0 W1:=zst hbV hb1;have hbw1:Bw w W1:=zst hb0 hb01;have r1:ResX L W1 nl0 0 0:=r0.same fun k hk=>hb01.block k (by omega);have hlen:(qH s).length<=40000:=UT zjH (by omega);have hok1:(∀ t∈qH s,jb t=0)->zdg s=true:=fun h=>by
  unfold zdg;rw [Ut hln,Uz,Qk];exact fun t ht=>Ut (h t ht)
 have hok2:(∃ t∈qH s,jb t≠0)->zdg s=false:=fun ⟨t,ht,hf⟩=>by
  unfold zdg;rw [Ut hln,Uz,KM];exact⟨t,ht,by simpa using hf⟩
 rw [sV];refine zs1 (zbi _) rfl (lb := #[.pointer (some ⟨W0.heap.size+1,0,none⟩)]) rfl rfl (znl hg1 hbx (by omega) hs) (Gc _) (fun k hk=>⟨by rcases hk with rfl | rfl <;> omega,rfl⟩) (fun pre vs W ⟨t,_,h⟩=>by rw [h];rfl) (by decide)
  (FpX L) (JX w L W1.heap.size) (fun ex pre X=>ex = .ret/\JxX w L pre X) ?_ (JX.iter (by omega) (by omega) (by omega) rfl) (fun ex=>?_) ?_ ?_ ?_ ?_
 ·intro k hk hf;rcases FpX.row r1 hf with h | h | h | ⟨a,h,_⟩
  ·omega
  ·omega
  ·omega
  ·cases h
 ·have hJ:=JxX.iter (w:=w) (L:=L) (n0:=W1.heap.size) (g:=W0.heap.size) (by omega) (by omega) (by omega);exact⟨fun pre A C ⟨h1,h2⟩ hs=>⟨⟨h1,(hJ.step _ _ _ h2 hs).1⟩,(hJ.step _ _ _ h2 hs).2⟩,fun pre A k ⟨_,h2⟩ hf=>hJ.lt _ _ _ h2 hf⟩
 ·exact⟨hbw1,fun t ht=>(by cases ht),none,0,r1,.nil⟩
 ·intro yl pre x vs W hyl hpre hJ hst hfy hly;obtain⟨t,ht,rfl⟩:=hst;have ht:t=x:=by simpa using ht.symm
  subst ht;have hIt:=JX.iter (w:=w) (L:=L) (B:=W1.heap.size) (n0:=W1.heap.size) (g:=W0.heap.size) (by omega) (by omega) (by omega) rfl;refine zk (X:=W) (v := .agg (q5.enc t).toArray) zkt rfl rfl rfl fun R hbR fR sR=>?_;have fR:R.heap[W.heap.size]?=some (.cells (q5.enc t).toArray 311 (0,0)):=fR;obtain⟨jR,qR⟩:=hIt.step pre W R hJ (Step.of_below hbR).o;refine⟨rfl,Keeps.of_below hbR (fun k hk => .inl (qR k hk)),jR,?_⟩;rintro o W2 hW2 ⟨hbW,hfl,p,cap,hr,ho⟩ hF2;have f2:W2.heap[W.heap.size]?=some (.cells (q5.enc t).toArray 311 (0,0)):=by rw [hW2,zj (by omega)];exact fR
  have s2:W2.heap.size=R.heap.size:=by rw [hW2];simp [World.putObj]
  have hLW:W1.heap.size<=W.heap.size:=by
   have:=hlt hr.l;obtain⟨hbW',_⟩:=hJ;omega
  refine biE (fun h=>?_) fun h=>?_
  ·have h:jb t≠0:=by
    have h1:(!decide (jb t=0))=true:=h;simpa using h1
   have hrd:ResX L W2.drew (.slice p pre.length cap) 0 0:=⟨hr.l,hr.p,hr.e⟩;have hd:W2.drew.heap.size=W2.heap.size:=rfl;have fin:∀ Y,ResX L Y (.slice none 0 0) t.pos (jb t)->Below w.heap.size W2.drew Y->W2.drew.heap.size=Y.heap.size->(∀ k,k≠L->k≠L+1->k≠L+2->Y.heap[k]?=W2.drew.heap[k]?)->(Exit.ret=Exit.ret/\JxX w L (pre++[t]) Y)/\Keeps (FpX L) W2 Y:=fun Y hY hbY hsY hoY=>by
    have hbY2:Bw w Y:=hbW.trans ((Gh w.heap.size W2).drew.trans hbY);refine⟨⟨rfl,hbY2,⟨t,by simp,h⟩,_,_,hY,h⟩,hbY.os,hbY.tape,hbY.output,by rw [<- hsY,hd];exact Gc _,fun k hk hf=>hoY k (fun e=>hf (.inl e)) (fun e=>hf (.inr (.inl e))) (fun e=>hf (.inr (.inr (.inl e)))),fun k hk=>?_⟩;rcases FpX.row hY hk with h1 | h1 | h1 | ⟨a,h1,_⟩
    ·exact .inl (.inl h1)
    ·exact .inl (.inr (.inl h1))
    ·exact .inl (.inr (.inr (.inl h1)))
    ·cases h1
   refine DrawE.treeQ [3,4,5] (.op 0 (.op 2 (.alt (.op 3 (.op 1 (.op 4 (.op 5 .nil)))) (.op 1 (.op 3 (.op 4 (.op 5 .nil))))))) (by kernel_rfl) (Gm ?_ ?_)
   ·refine zy (v := .slice none 0 0) zrq hrd.l rfl rfl rfl ?_;have q0:(W2.drew.setRow L (Value.slice none 0 0).cells).heap[W.heap.size]?=some (.cells (q5.enc t).toArray 311 (0,0)):=(zt (by omega)).trans (hdr f2);refine⟨_,zc (za q0) (i:=2) rfl,?_⟩;have q1:(W2.drew.setRow L (Value.slice none 0 0).cells).heap[L+1]?=some (.cells #[i64 0] 3 (0,0)):=(zt (by omega)).trans hrd.p;refine zy (v:=i64 t.pos) k3 q1 rfl rfl rfl ?_;have q2:((W2.drew.setRow L (Value.slice none 0 0).cells).setRow (L+1) (i64 t.pos).cells).heap[L+2]?=some (.cells #[i64 0] 42 (0,0)):=(zt (by omega)).trans ((zt (by omega)).trans hrd.e);refine zy (v:=i64 (jb t)) k42 q2 rfl rfl rfl (fin _ ⟨?_,?_,zq q2⟩ ?_ (by simp) ?_)
    ·exact (zt (by omega)).trans ((zt (by omega)).trans (zq hrd.l))
    ·exact (zt (by omega)).trans (zq q1)
    ·exact zl (zl (zl (Gh _ W2.drew) (by omega) _) (by omega) _) (by omega) _
    ·intro k h1 h2 h3;exact (zt h3).trans ((zt h2).trans (zt h1))
   ·exact⟨_,zc (za (hdr f2)) (i:=2) rfl,put3 W2.drew _ _ _ hrd t.pos (jb t) _ fin⟩
  ·have h:jb t=0:=by
    have h1:(!decide (jb t=0))=false:=h;simpa using h1
   refine⟨_,zc (za hr.l) (i:=0) rfl,_,rfl,za f2,hlt f2,⟨by decide,by decide,rfl⟩,q5.enc t,zbc (q5.len t) rfl,?_⟩;have hpl:pre.length+1<=40000:=by
    have:=hpre.length_le;simp at this;omega
   refine ji (E:=q5) (news:=[t]) (B:=W1.heap.size) Tryz.underlying306 zkt rfl rfl rfl (ho.alloc _) rfl (qF q5 t) (by simp;omega) (by show pre.length+1<=_;omega) (by show (pre.length+1)*32<=_;omega) ?_;intro p3 cap3 W4 ho4 hg4 hb4 hat;have hL2:L<W2.heap.size:=hlt hr.l;have hr3:ResX L (W2.alloc (.cells (q5.enc t).toArray 311)) (.slice p pre.length cap) 0 0:=⟨qy _ hr.l,qy _ hr.p,qy _ hr.e⟩;have hr4:ResX L W4 (.slice p pre.length cap) 0 0:=hr3.same fun k hk=>hb4.block k (by omega);refine zy (v := .slice p3 (pre++[t]).length cap3) zrq hr4.l rfl rfl rfl ?_;have hr5:ResX L (W4.setRow L (Value.slice p3 (pre++[t]).length cap3).cells) (.slice p3 (pre++[t]).length cap3) 0 0:=⟨zq hr4.l,(zt (by omega)).trans hr4.p,(zt (by omega)).trans hr4.e⟩;have hbB:Below w.heap.size W2 (W4.setRow L (Value.slice p3 (pre++[t]).length cap3).cells) :=
    zl (((Gh _ W2).alloc (by omega) _).trans (hb4.mono (by omega))) (by omega) _
   refine Gm ⟨hbW.trans hbB,fun u hu=>?_,p3,cap3,hr5,ho4.same fun a ha=>?_⟩ ⟨hbB.os,hbB.tape,hbB.output,hbB.size,fun k hk hf=>?_,fun k hk=>?_⟩
   ·rcases QU.1 hu with hu | hu
    ·exact hfl u hu
    ·simp only [KA] at hu;rw [hu];exact h
   ·refine zt ?_;rcases ho4.inv with ⟨h1,_⟩ | ⟨g',_,h1,h2,_⟩
    ·rw [h1] at ha;cases ha
    ·rw [h1] at ha;cases ha;dsimp only;omega
   ·have h1:k≠L:=fun e=>hf (.inl e);rw [zt h1];refine (hg4.block k (by simp;omega) ?_).trans ?_
    ·intro e
     cases p with
     | none=>simp [Value.ownBlock] at e
     | some a =>
      simp only [Value.ownBlock,KZ] at e;exact hf (.inr (.inr (.inr ⟨a,_,_,hr.l,e⟩)))
    ·show (W2.heap.push _)[k]?=_;rw [Array.getElem?_push,Gw (Nat.ne_of_lt hk)]
   ·rcases FpX.row hr5 hk with h1 | h1 | h1 | ⟨a,ha,rfl⟩
    ·exact .inl (.inl h1)
    ·exact .inl (.inr (.inl h1))
    ·exact .inl (.inr (.inr (.inl h1)))
    ·rcases hat a ha with h1 | h1
     ·exact .inl (.inr (.inr (.inr ⟨a,_,_,h1▸hr.l,rfl⟩)))
     ·refine .inr ?_;rw [h1];simp
 ·intro D W hD hfD hJ hdef;obtain⟨hbW,hfl,p,cap,hr,ho⟩:=hJ;refine⟨_,zc (za hr.l) (i:=0) rfl,zy (v := .slice p (qH s).length cap) zrq hr.l rfl rfl rfl ?_⟩;have q1:(W.setRow L (Value.slice p (qH s).length cap).cells).heap[L+1]?=some (.cells #[i64 0] 3 (0,0)):=(zt (by omega)).trans hr.p;refine zy (v:=i64 0) k3 q1 rfl rfl rfl ?_;have q2:((W.setRow L (Value.slice p (qH s).length cap).cells).setRow (L+1) (i64 0).cells).heap[L+2]?=some (.cells #[i64 0] 42 (0,0)):=(zt (by omega)).trans ((zt (by omega)).trans hr.e);refine zy (v:=i64 0) k42 q2 rfl rfl rfl ?_;obtain⟨S,hS⟩:=nm (((W.setRow L (Value.slice p (qH s).length cap).cells).setRow (L+1) (i64 0).cells).setRow (L+2) (i64 0).cells);have rS:ResX L S (.slice p (qH s).length cap) 0 0:=by
   rw [hS];exact⟨(zt (by omega)).trans ((zt (by omega)).trans (zq hr.l)),(zt (by omega)).trans (zq q1),zq q2⟩
  have bS:Below w.heap.size W S:=by rw [hS];exact zl (zl (zl (Gh _ W) (by omega) _) (by omega) _) (by omega) _
  have oS:∀ k,k≠L->k≠L+1->k≠L+2->S.heap[k]?=W.heap[k]?:=fun k h1 h2 h3=>by rw [hS];exact (zt h3).trans ((zt h2).trans (zt h1))
  have dS:S.heap[D]?=some (.deferred (some [])):=(oS D (by omega) (by omega) (by omega)).trans hdef;rw [<- hS];refine⟨_,rfl,dS,?_⟩;have rP:ResX L (S.putObj D (.deferred none)) (.slice p (qH s).length cap) 0 0:=rS.same fun k hk=>zj (by omega);refine⟨_,zc (za rP.l) (i:=0) rfl,_,zc (za rP.p) (i:=0) rfl,_,zc (za rP.e) (i:=0) rfl,p,cap,(qH s).length,0,0,rfl,fun _=>⟨rfl,rfl,?_⟩,fun h=>?_,qX (hbW.trans bS) (by omega) _⟩
  ·exact (ho.same fun a ha=>by
    have hne:a.block≠L/\a.block≠L+1/\a.block≠L+2/\a.block≠D:=by
     rcases ho.inv with ⟨h1,_⟩ | ⟨g',_,h1,h2,h3,_⟩
     ·rw [h1] at ha;cases ha
     ·rw [h1] at ha;cases ha;refine⟨by dsimp only;omega,by dsimp only;omega,by dsimp only;omega,fun e=>?_⟩;have e:g'=D:=e;rw [e,hdef] at h3;cases h3
    exact (zj hne.2.2.2).trans (oS _ hne.1 hne.2.1 hne.2.2.1)).row
  ·rw [hok1 hfl] at h;cases h
 ·rintro D ex pre W hD hfD hpre ⟨rfl,hbW,⟨t,ht,hft⟩,pl,er,hr,her⟩ hdef;refine⟨_,rfl,hdef,?_⟩;have rP:ResX L (W.putObj D (.deferred none)) (.slice none 0 0) pl er:=hr.same fun k hk=>zj (by omega);refine⟨_,zc (za rP.l) (i:=0) rfl,_,zc (za rP.p) (i:=0) rfl,_,zc (za rP.e) (i:=0) rfl,none,0,0,pl,er,rfl,fun h=>?_,fun _=>her,qX hbW (by omega) _⟩;rw [hok2 ⟨t,hpre.subset ht,hft⟩] at h;cases h
theorem zpG (s:List UInt8) (hs:s.length<=140737488351232) (w:Wd):CB 182 #[zn s] w (.bool (zdx s)):=by
 refine zD 34 [zn s] Tryz.func182 ?_;have hdef:zdx s=(zdg s&&zoC (qH s) s):=by
  unfold zdx zdg;rw [Bool.and_assoc]
 refine cmo (zvk s hs w) ?_;rintro e V ⟨p,cap,n,pl,er,rfl,h1,h2,hb⟩
 cases hk:zdg s with
 | false =>
  have her:=h2 hk;rw [hdef,hk,Ul];exact brN (by exact Uj her) (brF (brF ⟨rfl,hb⟩))
 | true =>
  obtain⟨rfl,rfl,hr⟩:=h1 hk;rw [hdef,hk,Uz];refine brT (biE (fun h=>?_) fun h=>?_)
  ·have h:(qH s).length=2:=by have h:((qH s).length:Int)=2:=dT h;omega
   match hx:qH s,h with
   | [t,u],_ =>
    rw [hx] at hr;obtain⟨b,o,rfl,hbb,hc⟩:=hr.at (i:=0) (by simp);have hc:=hc 0 (by simp);refine⟨0,rfl,(by show 0<2;omega),_,zc hc (i:=0) rfl,?_⟩;have kd:decide ((t.kind.toNat:Int)=1)=decide (t.kind=1):=(by rw [QH];exact qV (y:=1));refine biE (fun h=>?_) fun h=>?_
    ·have h:decide (t.kind=1)=true:=kd.symm.trans h;exact⟨0,rfl,(by show 0<2;omega),_,zc hc (i:=1) rfl,_,fun w=>zE _ _ t.text s w,rb (by unfold zoC;simp only [h,Uz]),hb⟩
    ·have h:decide (t.kind=1)=false:=kd.symm.trans h;exact⟨rb (by unfold zoC;simp only [h,Ul]),hb⟩
  ·have h:¬ (qH s).length=2:=by have h:¬ ((qH s).length:Int)=2:=dF h;omega
   refine brF ⟨rb ?_,hb⟩;have gen:∀ l:List Tok,¬ l.length=2->false=zoC l s:=fun l hl=>by
    match l,hl with
    | [],_=>rfl
    | [_],_=>rfl
    | [_,_],hl=>exact Gy rfl hl
    | _::_::_::_,_=>rfl
   exact gen _ h
theorem zt5 (s:List UInt8) (w:Wd):Calls PG 240 #[zn s] w fun e w'=>e = .returned (.bool (zg7 s))/\w=w':=by
 refine zD 22 [zn s] Tryz.func240 ?_;refine⟨_,fun w=>zE _ _ s [116,101,115,116] w,?_⟩;refine biE (fun h=>?_) fun h0=>?_
 ·refine brE h ?_;exact⟨rb (Ql.2 ⟨[116,101,115,116],by decide,h⟩).symm,rfl⟩
 refine⟨_,fun w=>zE _ _ s [105,110,105,116] w,?_⟩;refine biE (fun h=>?_) fun h1=>?_
 ·refine brE h ?_;exact⟨rb (Ql.2 ⟨[105,110,105,116],by decide,h⟩).symm,rfl⟩
 refine⟨_,fun w=>zE _ _ s [116,104,114,101,97,100] w,?_⟩;refine biE (fun h=>?_) fun h2=>?_
 ·refine brE h ?_;exact⟨rb (Ql.2 ⟨[116,104,114,101,97,100],by decide,h⟩).symm,rfl⟩
 refine⟨_,fun w=>zE _ _ s [115,111,109,101] w,?_⟩;refine biE (fun h=>?_) fun h3=>?_
 ·refine brE h ?_;exact⟨rb (Ql.2 ⟨[115,111,109,101],by decide,h⟩).symm,rfl⟩
 refine⟨_,fun w=>zE _ _ s [110,111,110,101] w,?_⟩;refine biE (fun h=>?_) fun h4=>?_
 ·refine brE h ?_;exact⟨rb (Ql.2 ⟨[110,111,110,101],by decide,h⟩).symm,rfl⟩
 refine⟨_,fun w=>zE _ _ s [97,108,108] w,?_⟩;refine biE (fun h=>?_) fun h5=>?_
 ·refine brE h ?_;exact⟨rb (Ql.2 ⟨[97,108,108],by decide,h⟩).symm,rfl⟩
 refine⟨_,fun w=>zE _ _ s [97,99,113] w,?_⟩;refine biE (fun h=>?_) fun h6=>?_
 ·refine brE h ?_;exact⟨rb (Ql.2 ⟨[97,99,113],by decide,h⟩).symm,rfl⟩
 refine⟨_,fun w=>zE _ _ s [114,101,108] w,?_⟩;refine biE (fun h=>?_) fun h7=>?_
 ·refine brE h ?_;exact⟨rb (Ql.2 ⟨[114,101,108],by decide,h⟩).symm,rfl⟩
 refine⟨_,fun w=>zE _ _ s [115,119,97,112] w,?_⟩;refine biE (fun h=>?_) fun h8=>?_
 ·refine brE h ?_;exact⟨rb (Ql.2 ⟨[115,119,97,112],by decide,h⟩).symm,rfl⟩
 refine⟨_,fun w=>zE _ _ s [102,101,116,99,104] w,?_⟩;refine biE (fun h=>?_) fun h9=>?_
 ·refine brE h ?_;exact⟨rb (Ql.2 ⟨[102,101,116,99,104],by decide,h⟩).symm,rfl⟩
 refine⟨_,fun w=>zE _ _ s [99,97,115] w,?_⟩;refine biE (fun h=>?_) fun h10=>?_
 ·refine brE h ?_;exact⟨rb (Ql.2 ⟨[99,97,115],by decide,h⟩).symm,rfl⟩
 refine⟨_,fun w=>zE _ _ s [102,101,110,99,101] w,?_⟩;refine biE (fun h=>?_) fun h11=>?_
 ·refine brE h ?_;exact⟨rb (Ql.2 ⟨[102,101,110,99,101],by decide,h⟩).symm,rfl⟩
 refine⟨_,fun w=>zE _ _ s [108,111,97,100,115] w,?_⟩;refine biE (fun h=>?_) fun h12=>?_
 ·refine brE h ?_;exact⟨rb (Ql.2 ⟨[108,111,97,100,115],by decide,h⟩).symm,rfl⟩
 refine⟨_,fun w=>zE _ _ s [115,116,111,114,101,115] w,?_⟩;refine biE (fun h=>?_) fun h13=>?_
 ·refine brE h ?_;exact⟨rb (Ql.2 ⟨[115,116,111,114,101,115],by decide,h⟩).symm,rfl⟩
 refine⟨_,fun w=>zE _ _ s [115,107,105,112] w,?_⟩;refine biE (fun h=>?_) fun h14=>?_
 ·refine brE h ?_;exact⟨rb (Ql.2 ⟨[115,107,105,112],by decide,h⟩).symm,rfl⟩
 refine⟨_,fun w=>zE _ _ s [105,102] w,?_⟩;refine biE (fun h=>?_) fun h15=>?_
 ·refine brE h ?_;exact⟨rb (Ql.2 ⟨[105,102],by decide,h⟩).symm,rfl⟩
 refine⟨_,fun w=>zE _ _ s [116,114,117,101] w,?_⟩;refine biE (fun h=>?_) fun h16=>?_
 ·exact⟨rb (Ql.2 ⟨[116,114,117,101],by decide,h⟩).symm,rfl⟩
 exact⟨rb (by unfold zg7 zsx;simp only [UD,List.any_nil,h0,h1,h2,h3,h4,h5,h6,h7,h8,h9,h10,h11,h12,h13,h14,h15,h16];rfl),rfl⟩
theorem zt1 (s:List UInt8) (hs:s.length<=140737488351232) (w:Wd):Calls PG 222 #[zn s] w fun e w'=>e = .returned (.bool (zeH s))/\w=w':=by
 refine z6 55 [zn s] (.s .p (.c .p (.s .p (.c .p .p)))) Tryz.func222 ?_;refine⟨Unit,fun _=>⟨[(0,zn s)],[]⟩,fun _ X=>(∃ c r,s=c::r/\r.length+1<=16/\z7 c=3/\zg7 s=false)/\w=X,?_,?_⟩
 ·refine biE (fun h=>?_) fun h=>?_
  ·have h:(s.length:Int)<1:=dT h;have h0:s=[]:=Jf (by omega);subst h0;refine brT ?_;refine brT ?_;refine brT ?_;exact⟨rfl,rfl⟩
  have h:¬ (s.length:Int)<1:=dF h;obtain⟨c,r,rfl⟩:∃ c r,s=c::r:=by
   cases s with
   | nil=>simp at h
   | cons c r=>exact⟨c,r,rfl⟩
  have hdef:zeH (c::r)=(decide (r.length+1<=16)&&(decide (z7 c=3)&&(!zg7 (c::r)&&(r.all qp&&(!decide (c=114)||(decide (qG r=0)||decide (qG r<r.length))))))):=rfl;have hsz:(((bs (c::r)).size:Nat):Int)=(r.length+1:Nat):=rfl;refine biE (fun h2=>?_) fun h2=>?_
  ·have h2:(16:Int)<((r.length+1:Nat):Int):=dT h2;refine brT ?_;refine brT ?_;exact⟨rb (by rw [hdef,Uj (by omega)];rfl),rfl⟩
  have h2:¬ (16:Int)<((r.length+1:Nat):Int):=dF h2;refine⟨0,rfl,Nat.succ_pos _,c,rfl,?_⟩;refine cmo (jO c _) ?_;rintro e _ ⟨rfl,rfl⟩;refine biE (fun h3=>?_) fun h3=>?_
  ·have h3:¬ z7 c=3:=by
    have h1:(!decide ((z7 c:Int)=3))=true:=h3;simp at h1;omega
   refine brT ?_;exact⟨rb (by rw [hdef,Uj h3];simp),rfl⟩
  have h3:z7 c=3:=by
   have h1:(!decide ((z7 c:Int)=3))=false:=h3;simp at h1;omega
  refine cmo (zt5 (c::r) _) ?_;rintro e _ ⟨rfl,rfl⟩;refine biE (fun h4=>?_) fun h4=>?_
  ·have h4:zg7 (c::r)=true:=h4;exact⟨rb (by rw [hdef,h4];simp),rfl⟩
  ·exact⟨(),(cvE rfl rfl),⟨c,r,rfl,by omega,h3,h4⟩,rfl⟩
 rintro _ _ ⟨⟨c,r,rfl,h1,h3,h4⟩,rfl⟩;have hdef:zeH (c::r)=(r.all qp&&(!decide (c=114)||(decide (qG r=0)||decide (qG r<r.length)))):=by
  show (decide (r.length+1<=16)&&(decide (z7 c=3)&&(!zg7 (c::r)&&(r.all qp&&(!decide (c=114)||(decide (qG r=0)||decide (qG r<r.length)))))))=_;rw [Ut h1,Ut h3,h4];rfl
 rw [hdef];refine⟨Unit,fun _=>⟨[(0,zn (c::r)),(3,i64 (qG r:Nat))],[]⟩,fun _ X=>r.all qp=true/\w=X,?_,?_⟩
 ·refine⟨Nat,fun k=>⟨[(0,zn (c::r)),(3,i64 (qG (r.take k):Nat)),(4,i64 (k+1:Nat))],[]⟩,fun k X=>k<=r.length/\(∀ d∈r.take k,qp d=true)/\qG (r.take k)<=k/\w=X,fun k=>r.length-k,0,(cvE rfl rfl),⟨Ge _,by simp,Gc _,rfl⟩,?_⟩;rintro k _ ⟨hk,hw,hdk,rfl⟩;dsimp only at hk hw hdk ⊢;refine biE (fun hc=>?_) fun hc=>?_
  ·have hc:((k+1:Nat):Int)<((r.length+1:Nat):Int):=dT hc;have hl:k<r.length:=by omega
   have hat:(bs (c::r)).data.toList[k+1]?=some r[k]:=by
    show (c::r)[k+1]?=_;rw [Ju,gE hl]
   refine⟨k+1,rfl,(by show k+1<r.length+1;omega),r[k],hat,?_⟩;refine cmo (zky _ _) ?_;rintro e _ ⟨rfl,rfl⟩;refine biE (fun hi=>?_) fun hi=>?_
   ·have hi:(!qp r[k])=true:=hi;have hi:qp r[k]=false:=(by simpa using hi);have:r.all qp=false:=by
     rw [KM];exact⟨r[k],gM _,by rw [hi];simp⟩
    exact⟨rb (by rw [this];rfl),rfl⟩
   have hi:(!qp r[k])=false:=hi;have hi:qp r[k]=true:=by simpa using hi
   have hw':∀ d∈r.take (k+1),qp d=true:=by
    rw [tsg hl];intro d hd;rcases QU.1 hd with hd | hd
    ·exact hw d hd
    ·simp only [KA] at hd;rw [hd];exact hi
   have hds:qG (r.take (k+1))=qG (r.take k)+(if zbk r[k]=true then 1 else 0):=by
    unfold qG;rw [tsg hl,Kv,lap];congr 1;by_cases h:zbk r[k]=true
    ·rw [Gx h,List.filter_cons_of_pos h];rfl
    ·rw [Gw h,List.filter_cons_of_neg h];rfl
   refine⟨k+1,rfl,(by show k+1<r.length+1;omega),r[k],hat,?_⟩;refine cmo (jO _ _) ?_;rintro e _ ⟨rfl,rfl⟩;have hd:decide ((z7 r[k]:Int)=4)=zbk r[k]:=zbX (b:=4);refine biE (fun hg=>?_) fun hg=>?_
   ·have hg:zbk r[k]=true:=hd.symm.trans hg;rw [Gx hg] at hds;refine⟨(qG (r.take (k+1)):Int),(zi (by omega)).trans (by omega),?_⟩;refine⟨((k+1+1:Nat):Int),(zi (by omega)).trans (by omega),?_⟩;exact⟨k+1,(cvE rfl rfl),⟨hl,hw',by omega,rfl⟩,zdc (by omega)⟩
   ·have hg:¬ zbk r[k]=true:=(by rw [Qj];exact hd.symm.trans hg);rw [Gw hg] at hds;refine⟨((k+1+1:Nat):Int),(zi (by omega)).trans (by omega),?_⟩;exact⟨k+1,⟨.cons rfl (.cons (by rw [hds];rfl) (.cons rfl .nil)),rfl⟩,⟨hl,hw',by omega,rfl⟩,zdc (by omega)⟩
  ·have hc:¬ ((k+1:Nat):Int)<((r.length+1:Nat):Int):=dF hc;obtain rfl:k=r.length:=by omega
   rw [Qx] at hw;exact⟨(),⟨.cons rfl (.cons (by rw [Qx];rfl) .nil),rfl⟩,Qk.2 hw,rfl⟩
 rintro _ _ ⟨hall,rfl⟩;rw [hall,Uz];have hdl:qG r<=r.length:=JL _ _;refine⟨0,rfl,Nat.succ_pos _,c,rfl,?_⟩;have cd:decide ((c.toNat:Int)=114)=decide (c=114):=by rw [QH];exact qV (y:=114)
 refine biE (fun h=>?_) fun h=>?_
 ·have h:(!decide (c=114))=true:=by
   have h:(!decide ((c.toNat:Int)=114))=true:=h
   rwa [cd] at h
  refine brT ?_;exact⟨rb (by rw [h];rfl),rfl⟩
 have h:(!decide (c=114))=false:=by
  have h:(!decide ((c.toNat:Int)=114))=false:=h
  rwa [cd] at h
 rw [h,Uw];refine biE (fun h5=>?_) fun h5=>?_
 ·have h5:qG r=0:=by have h5:(qG r:Int)=0:=dT h5;omega
  exact⟨rb (by rw [Ut h5];rfl),rfl⟩
 have h5:¬ qG r=0:=by have h5:¬ (qG r:Int)=0:=dF h5;omega
 refine⟨(r.length:Nat),(zi (by show -9223372036854775808<=((r.length+1:Nat):Int)-1/\((r.length+1:Nat):Int)-1<=9223372036854775807;omega)).trans (by show ((r.length+1:Nat):Int)-1=_;omega),?_⟩;exact⟨rb (by rw [Uj h5,Uw,QH];omega),rfl⟩
theorem zsk (p:OA) (cap:Nat) (l:List (List UInt8)) (s:List UInt8) (w:Wd) (hl:SlR zlG w p l) (hn:l.length<=140737488351232) :
  Calls PG 242 #[.slice p l.length cap,zn s] w fun e w'=>∃ n:Int,e = .returned (i64 n)/\decide (0<=n)=l.any (fun q=>decide (q=s))/\w=w':=by
 refine zD 19 [.slice p l.length cap,zn s] Tryz.func242 ?_;refine⟨Nat,fun k=>⟨[(0,.slice p l.length cap),(1,zn s),(7,i64 l.length),(8,i64 (k:Nat))],[]⟩,fun k X=>k<=l.length/\(∀ q∈l.take k,¬ q=s)/\w=X,fun k=>l.length-k,0,(cvE rfl rfl),⟨Ge _,by simp,rfl⟩,?_⟩;rintro k _ ⟨hk,hno,rfl⟩;dsimp only at hk hno ⊢;refine biE (fun hc=>?_) fun hc=>?_
 ·have hc:(k:Int)<(l.length:Int):=dT hc;have hkl:k<l.length:=by omega
  obtain⟨b,o,rfl,hb,hat⟩:=hl.at hkl;refine⟨k,rfl,hkl,?_⟩;refine⟨_,zc (hat k hkl) (i:=0) rfl,?_⟩;refine⟨_,fun w=>zE _ _ s l[k] w,?_⟩;refine biE (fun h=>?_) fun h=>?_
  ·have h:s=l[k]:=dT h;refine⟨k,rfl,?_,rfl⟩;rw [Ut (by omega)];symm;rw [Ql];exact⟨l[k],gM _,Ut h.symm⟩
  ·have h:¬ s=l[k]:=dF h;refine⟨(k+1:Nat),(zi (by omega)).trans (by omega),?_⟩;refine⟨k+1,(cvE rfl rfl),⟨hkl,?_,rfl⟩,zdc (by omega)⟩;rw [tsg hkl];intro q hq;rcases QU.1 hq with hq | hq
   ·exact hno q hq
   ·simp only [KA] at hq;rw [hq];exact fun e=>h e.symm
 ·have hc:¬ (k:Int)<(l.length:Int):=dF hc;obtain rfl:k=l.length:=by omega
  rw [Qx] at hno;refine⟨-1,rfl,?_,rfl⟩;symm;show _=false;rw [KN];exact fun q hq=>by simpa using hno q hq
theorem zmi (p:OA) (cap:Nat) (l:List (List UInt8)) (s:List UInt8) (w:Wd) (hl:SlR zlG w p l) (hn:l.length<=140737488351232) :
  Calls PG 223 #[.slice p l.length cap,zn s] w fun e w'=>e = .returned (.bool (l.any fun q=>decide (q=s)))/\w=w':=by
 refine zD 9 [.slice p l.length cap,zn s] Tryz.func223 ?_;refine cmo (zsk p cap l s w hl hn) ?_;rintro e _ ⟨n,rfl,h,rfl⟩;exact⟨rb h,rfl⟩
def GlobC (w : Wd) : Prop := zo w ⟨8, 0, none⟩ (zeF.map u8)
theorem GlobC.below {w w2 : Wd} (h : GlobC w) (hb : Below w.heap.size w w2) : GlobC w2 := zw hb h
def spC (x : InsD) (locs after : Nat) : List Value := [u8 x.op, u8 x.dst, u8 x.loc, .bool x.ar, u8 x.an, .bool x.br, u8 x.bn, u8 x.fn, u8 x.mode, u8 x.skip, i64 locs, i64 after]
theorem u8d (x k : UInt8) : decide ((x.toNat : Int) = (k.toNat : Int)) = decide (x = k) := by rw [QH]; exact qV
theorem zsN (a b : UInt8) : IntKind.u8.wrap ((BitVec.ofInt IntKind.u8.bits (a.toNat : Int) &&& BitVec.ofInt IntKind.u8.bits (b.toNat : Int)).toNat : Int) = ((a &&& b).toNat : Int) := by
  have h : ∀ x : UInt8, BitVec.ofInt 8 (x.toNat : Int) = x.toBitVec := fun x => by
    apply BitVec.eq_of_toNat_eq
    rw [Ks]
    have := x.toNat_lt
    show ((x.toNat : Int) % (2 ^ 8 : Nat)).toNat = x.toNat
    omega
  show IntKind.u8.wrap ((BitVec.ofInt 8 (a.toNat : Int) &&& BitVec.ofInt 8 (b.toNat : Int)).toNat : Int) = _
  rw [h, h]
  have e : (a.toBitVec &&& b.toBitVec).toNat = (a &&& b).toNat := rfl
  rw [e]
  have := (a &&& b).toNat_lt
  exact zf1 (by omega)
theorem zeU {g locs after : Nat} {x : InsD} {w : Wd} (bit : UInt8) (h : zo w ⟨g, 0, none⟩ (spC x locs after)) (hop : x.op.toNat ≤ 8) (hG : GlobC w) :
    Calls PG 248 #[.pointer (some ⟨g, 0, none⟩), u8 bit] w fun e w' => e = .returned (.bool (jm x.op bit)) ∧ w = w' := by
  refine qM (S := sg 15) (zbi _) (args := [.pointer (some ⟨g, 0, none⟩), u8 bit]) Tryz.func248 rfl rfl (JS rfl) rfl ?_
  refine ⟨_, zc h (i := 0) rfl, ?_⟩
  refine ⟨x.op.toNat, rfl, (by show x.op.toNat < 9; omega), ?_⟩
  have hn : (zeF.map u8)[x.op.toNat]? = some (u8 (zeF.getD x.op.toNat 0)) := by
    have hl : x.op.toNat < zeF.length := by show _ < 9; omega
    rw [KU, Jt hl, List.getD_eq_getElem?_getD, Jt hl]; rfl
  refine ⟨u8 (zeF.getD x.op.toNat 0), by rw [Gd]; exact zc hG hn, ?_⟩
  refine ⟨((zeF.getD x.op.toNat 0 &&& bit).toNat : Int), zsN _ _, ?_⟩
  exact ⟨rb (by unfold jm; rw [← u8d]; rfl), rfl⟩
theorem zhA (r : Bool) (n : UInt8) (w : Wd) : Calls PG 250 #[.agg #[.bool r, u8 n]] w fun e w' => e = .returned (.bool (zmf r n)) ∧ Below w.heap.size w w' := by
  refine qM (S := sg 11) (zbi _) (args := [.agg #[.bool r, u8 n]]) Tryz.func250 rfl rfl (JS rfl) rfl ?_
  have hb0 : Below w.heap.size w (w.alloc (.cells #[.bool r, u8 n] 94)) := (Gh _ _).alloc (Gc _) _
  have c0 := za (zA w (.cells #[.bool r, u8 n] 94))
  refine ⟨_, zc c0 (i := 0) rfl, ?_⟩
  cases r with
  | false =>
    refine brT ?_
    exact ⟨rfl, hb0⟩
  | true =>
    refine brF ?_
    refine ⟨_, zc c0 (i := 1) rfl, ?_⟩
    refine ⟨rb ?_, hb0⟩
    show decide ((n.toNat : Int) < 8) = decide (n.toNat < 8)
    rw [QH]; omega
theorem zkj {g locs after : Nat} {x : InsD} {w : Wd} (h : zo w ⟨g, 0, none⟩ (spC x locs after)) :
    Calls PG 251 #[.pointer (some ⟨g, 0, none⟩)] w fun e w' => e = .returned (.bool (zeI x)) ∧ w = w' := by
  refine qM (S := sg 64) (zbi _) (args := [.pointer (some ⟨g, 0, none⟩)]) Tryz.func251 rfl rfl (JS rfl) rfl ?_
  refine ⟨_, zc h (i := 0) rfl, ?_⟩
  refine Gm (fun h1 => ?_) (fun h1 => ?_)
  · have h1 : x.op = 1 := Qd ((u8d x.op 1).symm.trans h1)
    have e : zeI x = (decide (x.mode = 0) || decide (x.mode = 1)) := by unfold zeI; rw [Gx h1]
    rw [e, ← u8d, ← u8d]
    refine ⟨_, zc h (i := 8) rfl, ?_⟩
    refine Gm (fun h2 => ?_) (fun h2 => ?_)
    · exact ⟨rb (by have h2 : decide ((x.mode.toNat : Int) = ((0 : UInt8).toNat : Int)) = true := h2
                    rw [h2]; rfl), rfl⟩
    · refine ⟨_, zc h (i := 8) rfl, ?_⟩
      exact ⟨rb (by have h2 : decide ((x.mode.toNat : Int) = ((0 : UInt8).toNat : Int)) = false := h2
                    rw [h2]; rfl), rfl⟩
  have h1 : ¬ x.op = 1 := KI ((u8d x.op 1).symm.trans h1)
  refine Gm (fun h2 => ?_) (fun h2 => ?_)
  · have h2 : x.op = 2 := Qd ((u8d x.op 2).symm.trans h2)
    have e : zeI x = (decide (x.mode = 0) || decide (x.mode = 2)) := by unfold zeI; rw [Gw h1, Gx h2]
    rw [e, ← u8d, ← u8d]
    refine ⟨_, zc h (i := 8) rfl, ?_⟩
    refine Gm (fun h2 => ?_) (fun h2 => ?_)
    · exact ⟨rb (by have h2 : decide ((x.mode.toNat : Int) = ((0 : UInt8).toNat : Int)) = true := h2
                    rw [h2]; rfl), rfl⟩
    · refine ⟨_, zc h (i := 8) rfl, ?_⟩
      exact ⟨rb (by have h2 : decide ((x.mode.toNat : Int) = ((0 : UInt8).toNat : Int)) = false := h2
                    rw [h2]; rfl), rfl⟩
  have h2 : ¬ x.op = 2 := KI ((u8d x.op 2).symm.trans h2)
  refine Gm (fun h3 => ?_) (fun h3 => ?_)
  · have h3 : x.op = 7 := Qd ((u8d x.op 7).symm.trans h3)
    have e : zeI x = (decide (x.mode = 3) || (decide (x.mode = 4) || decide (x.mode = 5))) := by unfold zeI; rw [Gw h1, Gw h2, Gx h3]
    rw [e, ← u8d, ← u8d, ← u8d]
    refine ⟨_, zc h (i := 8) rfl, ?_⟩
    refine Gm (fun h4 => ?_) (fun h4 => ?_)
    · refine brT ?_
      exact ⟨rb (by have h4 : decide ((x.mode.toNat : Int) = ((3 : UInt8).toNat : Int)) = true := h4
                    rw [h4]; rfl), rfl⟩
    have h4 : decide ((x.mode.toNat : Int) = ((3 : UInt8).toNat : Int)) = false := h4
    refine ⟨_, zc h (i := 8) rfl, ?_⟩
    refine Gm (fun h5 => ?_) (fun h5 => ?_)
    · exact ⟨rb (by have h5 : decide ((x.mode.toNat : Int) = ((4 : UInt8).toNat : Int)) = true := h5
                    rw [h4, h5]; rfl), rfl⟩
    have h5 : decide ((x.mode.toNat : Int) = ((4 : UInt8).toNat : Int)) = false := h5
    refine ⟨_, zc h (i := 8) rfl, ?_⟩
    exact ⟨rb (by rw [h4, h5]; rfl), rfl⟩
  have h3 : ¬ x.op = 7 := KI ((u8d x.op 7).symm.trans h3)
  exact ⟨rb (by unfold zeI; rw [Gw h1, Gw h2, Gw h3]), rfl⟩
theorem zn4 {g locs after : Nat} {x : InsD} {w : Wd} (h : zo w ⟨g, 0, none⟩ (spC x locs after)) :
    Calls PG 252 #[.pointer (some ⟨g, 0, none⟩)] w fun e w' => e = .returned (.bool (fnL x)) ∧ w = w' := by
  refine qM (S := sg 56) (zbi _) (args := [.pointer (some ⟨g, 0, none⟩)]) Tryz.func252 rfl rfl (JS rfl) rfl ?_
  refine ⟨_, zc h (i := 0) rfl, ?_⟩
  refine Gm (fun h1 => ?_) (fun h1 => ?_)
  · have h1 : x.op = 3 := Qd ((u8d x.op 3).symm.trans h1)
    have e : fnL x = (decide (x.fn = 1) || (decide (x.fn = 2) || decide (x.fn = 3))) := by unfold fnL; rw [Gx h1]
    rw [e, ← u8d, ← u8d, ← u8d]
    refine ⟨_, zc h (i := 7) rfl, ?_⟩
    refine Gm (fun h4 => ?_) (fun h4 => ?_)
    · refine brT ?_
      exact ⟨rb (by have h4 : decide ((x.fn.toNat : Int) = ((1 : UInt8).toNat : Int)) = true := h4
                    rw [h4]; rfl), rfl⟩
    have h4 : decide ((x.fn.toNat : Int) = ((1 : UInt8).toNat : Int)) = false := h4
    refine ⟨_, zc h (i := 7) rfl, ?_⟩
    refine Gm (fun h5 => ?_) (fun h5 => ?_)
    · exact ⟨rb (by have h5 : decide ((x.fn.toNat : Int) = ((2 : UInt8).toNat : Int)) = true := h5
                    rw [h4, h5]; rfl), rfl⟩
    have h5 : decide ((x.fn.toNat : Int) = ((2 : UInt8).toNat : Int)) = false := h5
    refine ⟨_, zc h (i := 7) rfl, ?_⟩
    exact ⟨rb (by rw [h4, h5]; rfl), rfl⟩
  have h1 : ¬ x.op = 3 := KI ((u8d x.op 3).symm.trans h1)
  refine Gm (fun h2 => ?_) (fun h2 => ?_)
  · have h2 : x.op = 8 := Qd ((u8d x.op 8).symm.trans h2)
    have e : fnL x = (decide (x.fn = 4) || (decide (x.fn = 5) || decide (x.fn = 6))) := by unfold fnL; rw [Gw h1, Gx h2]
    rw [e, ← u8d, ← u8d, ← u8d]
    refine ⟨_, zc h (i := 7) rfl, ?_⟩
    refine Gm (fun h4 => ?_) (fun h4 => ?_)
    · refine brT ?_
      exact ⟨rb (by have h4 : decide ((x.fn.toNat : Int) = ((4 : UInt8).toNat : Int)) = true := h4
                    rw [h4]; rfl), rfl⟩
    have h4 : decide ((x.fn.toNat : Int) = ((4 : UInt8).toNat : Int)) = false := h4
    refine ⟨_, zc h (i := 7) rfl, ?_⟩
    refine Gm (fun h5 => ?_) (fun h5 => ?_)
    · exact ⟨rb (by have h5 : decide ((x.fn.toNat : Int) = ((5 : UInt8).toNat : Int)) = true := h5
                    rw [h4, h5]; rfl), rfl⟩
    have h5 : decide ((x.fn.toNat : Int) = ((5 : UInt8).toNat : Int)) = false := h5
    refine ⟨_, zc h (i := 7) rfl, ?_⟩
    exact ⟨rb (by rw [h4, h5]; rfl), rfl⟩
  have h2 : ¬ x.op = 8 := KI ((u8d x.op 8).symm.trans h2)
  exact ⟨rb (by unfold fnL; rw [Gw h1, Gw h2]), rfl⟩
set_option maxRecDepth 4000
def zqH:InsD:=⟨0,0,0,false,0,false,0,0,0,0⟩
def nd0 (x:InsD):InsD:={ zqH with op:=x.op }
def nd1 (x:InsD):InsD:={ nd0 x with dst:=if jm x.op 1 then x.dst else 0 }
def nd2 (x:InsD):InsD:={ nd1 x with loc:=if jm x.op 2 then x.loc else 0 }
def nd3 (x:InsD):InsD:={ nd2 x with ar:=jm x.op 4&&x.ar,an:=if jm x.op 4 then x.an else 0 }
def nd4 (x:InsD):InsD:={ nd3 x with br:=jm x.op 8&&x.br,bn:=if jm x.op 8 then x.bn else 0 }
def nd5 (x:InsD):InsD:={ nd4 x with fn:=if jm x.op 16 then x.fn else 0 }
def nd6 (x:InsD):InsD:={ nd5 x with mode:=if jm x.op 32 then x.mode else 0 }
def nd7 (x:InsD):InsD:={ nd6 x with skip:=if jm x.op 64 then x.skip else 0 }
theorem zpo {g locs after:Nat} {x:InsD} {w:Wd} (h:zo w ⟨g,0,none⟩ (spC x locs after)) (hg:g<w.heap.size) (hop:x.op.toNat<=8) (hG:GlobC w) :
  CB 245 #[At0 g] w (.agg (qr.enc (zgf x)).toArray):=by
 refine z6 67 [At0 g] (.s .p (.c .p (.c .p (.c .p (.c .p (.c .p (.c .p (.c .p (.c .p .p))))))))) Tryz.func245 ?_;obtain⟨r,hr⟩:=nm (w.heap.size);obtain⟨W0,hW0⟩:=nm (w.alloc (.cells (qr.enc zqH).toArray 96));have hb0:Bw w W0:=by rw [hW0];exact (zba _ _)
 have f0:W0.heap[r]?=some (.cells (qr.enc zqH).toArray 96 (0,0)):=by rw [hW0,hr];exact zA w _
 have s0:W0.heap.size=r+1:=by rw [hW0,wz,hr]
 let Good:InsD->Wd->Prop:=fun y X=>Bw w X/\X.heap[r]?=some (.cells (qr.enc zqH).toArray 96 (0,0))/\X.heap[r+1]?=some (.cells (qr.enc y).toArray 96 (0,0))
 have good:∀ y X,Good y X->zo X ⟨g,0,none⟩ (spC x locs after)/\GlobC X/\g<X.heap.size:=fun y X ⟨hb,_,_⟩=>⟨qT hb hg h,hG.below hb,by have:=hb.size;omega⟩;have turn:∀ y z X Y,Good y X->X.grownBy Y (some (r+1))->Y.heap[r+1]?=some (.cells (qr.enc z).toArray 96 (0,0))->Good z Y:=fun y z X Y ⟨hb,h1,h2⟩ hg' h3 =>
  ⟨hb.grown hg' hb.size (fun k e=>by simp only [KZ] at e;omega),(hg'.block _ (hlt h1) (fun e=>by simp only [KZ] at e;omega)).trans h1,h3⟩
 have start:∀ Y,Bw W0 Y->Y.heap[W0.heap.size]?=some (.cells (Value.agg (qr.enc (nd0 x)).toArray).cells 96 (0,0))->Good (nd0 x) Y:=fun Y hY fY =>
  ⟨(zst hb0 hY),zb hY f0,by rw [<- s0];exact fY⟩
 have h0:zo W0 ⟨g,0,none⟩ (spC x locs after):=qT hb0 hg h;have p2:some (Value.pointer (some ⟨w.heap.size,0,none⟩))=some (At0 r):=by rw [hr]
 have p3:some (Value.pointer (some ⟨W0.heap.size,0,none⟩))=some (At0 (r+1)):=by rw [s0]
 refine⟨Unit,fun _=>⟨[(0,At0 g),(2,At0 r),(3,At0 (r+1))],[]⟩,fun _ X=>Good (nd0 x) X,?_,?_⟩
 ·subst hW0;exact⟨_,zc h0 (i:=0) rfl,qr.enc (nd0 x),rfl,zk (v := .agg (qr.enc (nd0 x)).toArray) k96 rfl rfl rfl fun Y hbY fY sY=>⟨(),⟨.cons rfl (.cons p2 (.cons p3 .nil)),rfl⟩,start Y hbY fY⟩⟩
 clear start h0 f0 hb0 p2 p3 s0;rintro _ Y hY;refine⟨Unit,fun _=>⟨[(0,At0 g),(2,At0 r),(3,At0 (r+1))],[]⟩,fun _ X=>Good (nd1 x) X,?_,?_⟩
 ·obtain⟨hc,hGY,hgY⟩:=good _ Y hY;refine cmo (zeU 1 hc hop hGY) ?_;rintro e _ ⟨rfl,rfl⟩;refine biE (fun hh=>?_) fun hh=>?_
  ·have hh:jm x.op 1=true:=hh;have e:nd1 x={ nd0 x with dst:=x.dst }:=by unfold nd1;rw [Gx hh]
   exact⟨_,zc hc (i:=1) rfl,zap k5 rfl (hY.2.2) (o:=1) (by show 1<10;omega) (v:=u8 x.dst) rfl rfl fun Z fZ gZ sZ=>⟨(),(cvE rfl rfl),turn _ _ Y Z hY gZ (by rw [e];exact fZ)⟩⟩
  ·have hh:jm x.op 1=false:=hh;have e:nd1 x=nd0 x:=by unfold nd1;rw [Gw (by rw [hh];decide)];rfl
   exact⟨(),(cvE rfl rfl),by rw [e];exact hY⟩
 clear hY Y;rintro _ Y hY;refine⟨Unit,fun _=>⟨[(0,At0 g),(2,At0 r),(3,At0 (r+1))],[]⟩,fun _ X=>Good (nd2 x) X,?_,?_⟩
 ·obtain⟨hc,hGY,hgY⟩:=good _ Y hY;refine cmo (zeU 2 hc hop hGY) ?_;rintro e _ ⟨rfl,rfl⟩;refine biE (fun hh=>?_) fun hh=>?_
  ·have hh:jm x.op 2=true:=hh;have e:nd2 x={ nd1 x with loc:=x.loc }:=by unfold nd2;rw [Gx hh]
   exact⟨_,zc hc (i:=2) rfl,zap k5 rfl (hY.2.2) (o:=2) (by show 2<10;omega) (v:=u8 x.loc) rfl rfl fun Z fZ gZ sZ=>⟨(),(cvE rfl rfl),turn _ _ Y Z hY gZ (by rw [e];exact fZ)⟩⟩
  ·have hh:jm x.op 2=false:=hh;have e:nd2 x=nd1 x:=by unfold nd2;rw [Gw (by rw [hh];decide)];rfl
   exact⟨(),(cvE rfl rfl),by rw [e];exact hY⟩
 clear hY Y;rintro _ Y hY;refine⟨Unit,fun _=>⟨[(0,At0 g),(2,At0 r),(3,At0 (r+1))],[]⟩,fun _ X=>Good (nd3 x) X,?_,?_⟩
 ·obtain⟨hc,hGY,hgY⟩:=good _ Y hY;refine cmo (zeU 4 hc hop hGY) ?_;rintro e _ ⟨rfl,rfl⟩;refine biE (fun hh=>?_) fun hh=>?_
  ·have hh:jm x.op 4=true:=hh;have e:nd3 x={ nd2 x with ar:=x.ar,an:=x.an }:=by unfold nd3;rw [hh,Uz,Gx rfl]
   exact⟨[.bool x.ar,u8 x.an],rfl,zM (n:=3) (m:=2) hc,hgY,jj k94 hY.2.2 (o:=3) (v := .agg #[.bool x.ar,u8 x.an]) rfl (by show 3+2<=10;omega) rfl fun Z fZ gZ sZ=>⟨(),(cvE rfl rfl),turn _ _ Y Z hY gZ (by rw [e];exact fZ)⟩⟩
  ·have hh:jm x.op 4=false:=hh;have e:nd3 x=nd2 x:=by unfold nd3;rw [hh,Ul,Gw (by decide)];rfl
   exact⟨(),(cvE rfl rfl),by rw [e];exact hY⟩
 clear hY Y;rintro _ Y hY;refine⟨Unit,fun _=>⟨[(0,At0 g),(2,At0 r),(3,At0 (r+1))],[]⟩,fun _ X=>Good (nd4 x) X,?_,?_⟩
 ·obtain⟨hc,hGY,hgY⟩:=good _ Y hY;refine cmo (zeU 8 hc hop hGY) ?_;rintro e _ ⟨rfl,rfl⟩;refine biE (fun hh=>?_) fun hh=>?_
  ·have hh:jm x.op 8=true:=hh;have e:nd4 x={ nd3 x with br:=x.br,bn:=x.bn }:=by unfold nd4;rw [hh,Uz,Gx rfl]
   exact⟨[.bool x.br,u8 x.bn],rfl,zM (n:=5) (m:=2) hc,hgY,jj k94 hY.2.2 (o:=5) (v := .agg #[.bool x.br,u8 x.bn]) rfl (by show 5+2<=10;omega) rfl fun Z fZ gZ sZ=>⟨(),(cvE rfl rfl),turn _ _ Y Z hY gZ (by rw [e];exact fZ)⟩⟩
  ·have hh:jm x.op 8=false:=hh;have e:nd4 x=nd3 x:=by unfold nd4;rw [hh,Ul,Gw (by decide)];rfl
   exact⟨(),(cvE rfl rfl),by rw [e];exact hY⟩
 clear hY Y;rintro _ Y hY;refine⟨Unit,fun _=>⟨[(0,At0 g),(2,At0 r),(3,At0 (r+1))],[]⟩,fun _ X=>Good (nd5 x) X,?_,?_⟩
 ·obtain⟨hc,hGY,hgY⟩:=good _ Y hY;refine cmo (zeU 16 hc hop hGY) ?_;rintro e _ ⟨rfl,rfl⟩;refine biE (fun hh=>?_) fun hh=>?_
  ·have hh:jm x.op 16=true:=hh;have e:nd5 x={ nd4 x with fn:=x.fn }:=by unfold nd5;rw [Gx hh]
   exact⟨_,zc hc (i:=7) rfl,zap k5 rfl (hY.2.2) (o:=7) (by show 7<10;omega) (v:=u8 x.fn) rfl rfl fun Z fZ gZ sZ=>⟨(),(cvE rfl rfl),turn _ _ Y Z hY gZ (by rw [e];exact fZ)⟩⟩
  ·have hh:jm x.op 16=false:=hh;have e:nd5 x=nd4 x:=by unfold nd5;rw [Gw (by rw [hh];decide)];rfl
   exact⟨(),(cvE rfl rfl),by rw [e];exact hY⟩
 clear hY Y;rintro _ Y hY;refine⟨Unit,fun _=>⟨[(0,At0 g),(2,At0 r),(3,At0 (r+1))],[]⟩,fun _ X=>Good (nd6 x) X,?_,?_⟩
 ·obtain⟨hc,hGY,hgY⟩:=good _ Y hY;refine cmo (zeU 32 hc hop hGY) ?_;rintro e _ ⟨rfl,rfl⟩;refine biE (fun hh=>?_) fun hh=>?_
  ·have hh:jm x.op 32=true:=hh;have e:nd6 x={ nd5 x with mode:=x.mode }:=by unfold nd6;rw [Gx hh]
   exact⟨_,zc hc (i:=8) rfl,zap k5 rfl (hY.2.2) (o:=8) (by show 8<10;omega) (v:=u8 x.mode) rfl rfl fun Z fZ gZ sZ=>⟨(),(cvE rfl rfl),turn _ _ Y Z hY gZ (by rw [e];exact fZ)⟩⟩
  ·have hh:jm x.op 32=false:=hh;have e:nd6 x=nd5 x:=by unfold nd6;rw [Gw (by rw [hh];decide)];rfl
   exact⟨(),(cvE rfl rfl),by rw [e];exact hY⟩
 clear hY Y;rintro _ Y hY;refine⟨Unit,fun _=>⟨[(0,At0 g),(2,At0 r),(3,At0 (r+1))],[]⟩,fun _ X=>Good (nd7 x) X,?_,?_⟩
 ·obtain⟨hc,hGY,hgY⟩:=good _ Y hY;refine cmo (zeU 64 hc hop hGY) ?_;rintro e _ ⟨rfl,rfl⟩;refine biE (fun hh=>?_) fun hh=>?_
  ·have hh:jm x.op 64=true:=hh;have e:nd7 x={ nd6 x with skip:=x.skip }:=by unfold nd7;rw [Gx hh]
   exact⟨_,zc hc (i:=9) rfl,zap k5 rfl (hY.2.2) (o:=9) (by show 9<10;omega) (v:=u8 x.skip) rfl rfl fun Z fZ gZ sZ=>⟨(),(cvE rfl rfl),turn _ _ Y Z hY gZ (by rw [e];exact fZ)⟩⟩
  ·have hh:jm x.op 64=false:=hh;have e:nd7 x=nd6 x:=by unfold nd7;rw [Gw (by rw [hh];decide)];rfl
   exact⟨(),(cvE rfl rfl),by rw [e];exact hY⟩
 clear hY Y;rintro _ Y hY;exact⟨_,rfl,za hY.2.2,hlt hY.2.2,zy (v := .agg (qr.enc (nd7 x)).toArray) k96 hY.2.1 rfl rfl rfl ⟨_,rfl,za (zq hY.2.1),rfl,zl hY.1 (by omega) _⟩⟩
end Go.Proofs.YtnadlhpkpnfmbaaGreatDoor
namespace Go.Vc
open Go.RowKit
def qw (cs:List Value) (o n:Nat):List Value:=(cs.drop o).take n
theorem zfz (cs:List Value) (o n m:Nat):qw cs o (n+m)=qw cs o n++qw cs (o+n) m:=by
 unfold qw;rw [List.take_add,Um]
theorem zdD {cs:List Value} {o n:Nat} (h:o+n<=cs.length):(qw cs o n).length=n:=by
 unfold qw;rw [Qv,Qu];omega
def vOf (g:Bool) (a:List Value):Value:=match g with | true => .agg a.toArray | false=>a.headD undef
structure TyEq (P:Program) (T:TypeId) (g:Bool) (n k:Nat) (G:List Value->Prop):Prop where
 ag:∀ w,(isAgg T).run P w = .ok g w
 info:∃ i,P.info? T=some i
 cl:P.cellsOf T=n
 one:g=false->n=1
 eq:∀ d w a b,a.length=n->b.length=n->G a->G b->∃ r:Bool,(Op.equalIn (d+k) T (vOf g a) (vOf g b)).run P w = .ok r w/\(r=true↔a=b)
section
variable {P:Program}
theorem TyEq.up {T:TypeId} {g:Bool} {n k:Nat} {G:List Value->Prop} (h:TyEq P T g n k G) (m:Nat):TyEq P T g n (m+k) G :=
 ⟨h.ag,h.info,h.cl,h.one,fun d w a b h1 h2 h3 h4=>by have:=h.eq (d+m) w a b h1 h2 h3 h4;rwa [UH] at this⟩
theorem TyEq.part {T:TypeId} {g:Bool} {n k:Nat} {G:List Value->Prop} (h:TyEq P T g n k G) (xs:Array Value) (o:Nat) (hs:o+n<=xs.size) (w:Wd):(Go.part T xs o).run P w = .ok (vOf g (qw xs.toList o n)) w:=by
 obtain⟨i,hi⟩:=h.info;have hsz:=run_sizeOf w hi;rw [h.cl] at hsz;simp only [Go.part,UY,h.ag,Qa]
 cases g with
 | true =>
  simp only [Gu,UY,hsz,Qa,UZ,vOf];congr 2;apply Qf.1;simp [qw,JT,List.extract_eq_take_drop]
 | false =>
  have h1:=h.one rfl;subst h1;have ho:o<xs.size:=by omega
  simp only [Kt,Gr,Jm ho,UZ,vOf];congr 1;unfold qw;rw [Jo (by simpa using ho)];simp
inductive Tile (P:Program) (k:Nat):List Field->Nat->Nat->(List Value->Prop)->Prop
 | nil {s:Nat}:Tile P k [] s s (fun _=>True)
 | cons {f : Field} {fs : List Field} {s e n : Nat} {g : Bool} {G G' : List Value → Prop} (hn : f.name ≠ "_") (ho : f.offset = s) (ht : TyEq P f.type g n k G) (hr : Tile P k fs (s + n) e G') : Tile P k (f :: fs) s e (fun cs => G (cs.take n) ∧ G' (cs.drop n))
theorem Tile.le {k:Nat} {fs:List Field} {s e:Nat} {G:List Value->Prop} (h:Tile P k fs s e G):s<=e:=by
 induction h with
 | nil=>exact Gc _
 | cons _ _ _ _ ih=>omega
theorem Tile.eq {k:Nat} {fs:List Field} {s e:Nat} {G:List Value->Prop} (h:Tile P k fs s e G):∀ (d:Nat) (xs ys:Array Value) (w:Wd),e<=xs.size->e<=ys.size->G (qw xs.toList s (e-s))->G (qw ys.toList s (e-s)) ->
  ∃ r:Bool,(Op.eqFields (d+k) xs ys fs).run P w = .ok r w/\(r=true↔qw xs.toList s (e-s)=qw ys.toList s (e-s)):=by
 induction h with
 | nil=>intro d xs ys w _ _ _ _;exact⟨true,rfl,by simp [qw]⟩
 | @cons f fs s e n g G G' hn ho ht hr ih =>
  intro d xs ys w hx hy hgx hgy;have hle:=hr.le;have e1:e-s=n+(e-(s+n)):=by omega
  rw [e1,zfz] at hgx hgy;rw [e1,zfz,zfz];have lx:(qw xs.toList s n).length=n:=zdD (by simp;omega);have ly:(qw ys.toList s n).length=n:=zdD (by simp;omega);obtain⟨gx1,gx2⟩:=hgx;obtain⟨gy1,gy2⟩:=hgy;rw [Jg (by omega),JE (by omega)] at gx1 gy1;rw [List.drop_append_of_le_length (by omega),JA (by omega),QW] at gx2 gy2;obtain⟨r1,h1,h2⟩:=ht.eq d w _ _ lx ly gx1 gy1;obtain⟨r2,h3,h4⟩:=ih d xs ys w hx hy gx2 gy2;simp only [Op.eqFields,hn,ne_eq,not_false_eq_true,Gu,UY,ho,ht.part xs s (by omega) w,ht.part ys s (by omega) w,Qa,h1];have hap:(qw xs.toList s n++qw xs.toList (s+n) (e-(s+n))=qw ys.toList s n++qw ys.toList (s+n) (e-(s+n)))↔(qw xs.toList s n=qw ys.toList s n/\qw xs.toList (s+n) (e-(s+n))=qw ys.toList (s+n) (e-(s+n))) :=
   ⟨fun h=>List.append_inj h (by rw [lx,ly]),fun h=>by rw [h.1,h.2]⟩
  rw [hap,<- h2,<- h4]
  cases r1 with
  | true=>exact⟨r2,by simpa using h3,by simp⟩
  | false=>exact⟨false,by simp,by simp⟩
theorem TyEq.struct {T:TypeId} {k n:Nat} {G:List Value->Prop} (hu:P.underlying T=some (.struct (P.fieldsOf T))) (hp:P.stoodInHeld T=false) (hag:∀ w,(isAgg T).run P w = .ok true w) (hi:∃ i,P.info? T=some i) (hc:P.cellsOf T=n)
  (ht:Tile P k (P.fieldsOf T).toList 0 n G):TyEq P T true n (k+1) G :=
 ⟨hag,hi,hc,fun h=>(by cases h),fun d w a b ha hb ga gb=>by
  have e:∀ l:List Value,l.length=n->qw l.toArray.toList 0 (n-0)=l:=fun l hl=>by
   unfold qw;rw [Uo,UW];exact JE (by show l.length<=n;omega)
  obtain⟨r,h1,h2⟩:=ht.eq d a.toArray b.toArray w (by simp;omega) (by simp;omega) (by rw [e a ha];exact ga) (by rw [e b hb];exact gb);rw [e a ha,e b hb] at h2;refine⟨r,?_,h2⟩;have:=run_equalIn_struct (P:=P) w (d+k) T a.toArray b.toArray hu hp;rw [<- UH];exact this.trans h1⟩
theorem zof {n m:Nat} (hn:0<n) {a b:List Value} (ha:a.length=m*n) (hb:b.length=m*n) (h:∀ i,i<m->qw a (i*n) n=qw b (i*n) n):a=b:=by
 apply KQ;intro j;by_cases hj:j<m*n
 ·have hd:j/n<m:=Nat.div_lt_of_lt_mul (by rw [UU];exact hj);have h1:=Gq (fun l=>l[j%n]?) (h _ hd);simp only [qw,Kx,Gx (Gl j hn),Kw] at h1;rw [UU,Ub] at h1;exact h1
 ·rw [JJ (by omega),JJ (by omega)]
theorem TyEq.array {T e:TypeId} {g:Bool} {n k m:Nat} {G:List Value->Prop} (hn:0<n) (hu:P.underlying T=some (.array m e)) (hag:∀ w,(isAgg T).run P w = .ok true w) (hi:∃ i,P.info? T=some i) (hc:P.cellsOf T=m*n) (ht:TyEq P e g n k G) :
  TyEq P T true (m*n) (k+1) (fun cs=>∀ i,i<m->G (qw cs (i*n) n)) :=
 ⟨hag,hi,hc,fun h=>(by cases h),fun d w a b ha hb ga gb=>by
  obtain⟨ie,hie⟩:=ht.info;have key:∀ is:List Nat,(∀ i∈is,i<m)->∃ r:Bool,(Op.eqItems (d+k) e n a.toArray b.toArray is).run P w = .ok r w/\(r=true↔∀ i∈is,qw a (i*n) n=qw b (i*n) n):=by
   intro is
   induction is with
   | nil=>intro _;exact⟨true,rfl,by simp⟩
   | cons i is ih =>
    intro him;have hi:=him i Kz;have hle:i*n+n<=m*n:=(by rw [<- Nat.succ_mul];exact Nat.mul_le_mul_right _ hi);obtain⟨r2,h3,h4⟩:=ih fun j hj=>him j (JW _ hj);obtain⟨r1,h1,h2⟩:=ht.eq d w (qw a (i*n) n) (qw b (i*n) n) (zdD (by omega)) (zdD (by omega)) (ga i hi) (gb i hi);have p1:=ht.part a.toArray (i*n) (by simp;omega) w;have p2:=ht.part b.toArray (i*n) (by simp;omega) w;have ea:a.toArray.toList=a:=rfl;have eb:b.toArray.toList=b:=rfl;rw [ea] at p1;rw [eb] at p2;simp only [Op.eqItems,UY,p1,p2,Qa,h1]
    cases r1 with
    | true =>
     refine⟨r2,by simpa using h3,?_⟩;rw [h4];have:=h2.1 rfl;simp [this]
    | false =>
     refine⟨false,by simp,?_⟩;simp only [Kt,false_iff];intro h;have:=h2.2 (h i Kz)
     cases this
  obtain⟨r,h1,h2⟩:=key (List.range m) fun i hi=>Uq.1 hi;refine⟨r,?_,?_⟩
  ·have:=run_equalIn_array (P:=P) w (d+k) a.toArray b.toArray hu hie;rw [ht.cl] at this;rw [<- UH];exact this.trans h1
  ·rw [h2];exact⟨fun h=>zof hn ha hb fun i hi=>h i (Uq.2 hi),fun h i _=>by rw [h]⟩⟩
theorem TyEq.int {T:TypeId} {q:IntKind} (hu:P.underlying T=some (.int q)) (hag:∀ w,(isAgg T).run P w = .ok false w) (hi:∃ i,P.info? T=some i) (hc:P.cellsOf T=1):TyEq P T false 1 1 (fun cs=>∃ x,cs=[.int q x]) :=
 ⟨hag,hi,hc,fun _=>rfl,fun d w a b _ _ ⟨x,hx⟩ ⟨y,hy⟩=>by
  subst hx hy;refine⟨decide (x=y),?_,by simp⟩;simp only [vOf,List.headD_cons,Op.equalIn,UY,Uu hu,Qa,Gu,UZ];congr 1⟩
theorem TyEq.bool {T:TypeId} (hu:P.underlying T=some .bool) (hag:∀ w,(isAgg T).run P w = .ok false w) (hi:∃ i,P.info? T=some i) (hc:P.cellsOf T=1):TyEq P T false 1 1 (fun cs=>∃ x,cs=[.bool x]) :=
 ⟨hag,hi,hc,fun _=>rfl,fun d w a b _ _ ⟨x,hx⟩ ⟨y,hy⟩=>by
  subst hx hy;refine⟨x == y,?_,by simp⟩;simp only [vOf,List.headD_cons,Op.equalIn,UY,Uu hu,Qa,UZ]⟩
end
end Go.Vc
namespace Go.Proofs.YtnadlhpkpnfmbaaGreatDoor
open Go.Vc Go.RowKit Go.Sei
def zv4 (q:IntKind) (cs:List Value):Prop:=∃ x,cs=[.int q x]
def zvm (cs:List Value):Prop:=∃ x,cs=[.bool x]
theorem tU8:TyEq PG 5 false 1 1 (zv4 .u8) := .int Tryz.underlying5 (fun w=>Tryz.isAgg5 w) (jr (by kernel_rfl) (by kernel_rfl)).1 (by kernel_rfl)
theorem zul:TyEq PG 4 false 1 1 zvm := .bool Tryz.underlying4 (fun w=>Tryz.isAgg4 w) (jr (by kernel_rfl) (by kernel_rfl)).1 (by kernel_rfl)
theorem uf {T:TypeId} {F:Array Field} (h:Tryz.prog.underlying T=some (.struct F)):Tryz.prog.underlying T=some (.struct (Tryz.prog.fieldsOf T))/\Tryz.prog.fieldsOf T=F:=by
 have:Tryz.prog.fieldsOf T=F:=by unfold Program.fieldsOf;rw [h]
 exact⟨by rw [this];exact h,this⟩
open Classical in
noncomputable def cdec (p:Prop):Bool:=decide p
theorem zr3 {p:Prop} [h:Decidable p]:cdec p=decide p:=by unfold cdec;congr
theorem ze2 {p q:Prop} [Decidable q] (h:p↔q):cdec p=decide q:=by
 have:p=q:=propext h;subst this;exact zr3
section
variable {T:TypeId} {n k:Nat} {G:List Value->Prop} (h:TyEq PG T true n k G) (d:Nat) (hd:d+k=10000) (hg:Tryz.prog.eqGuardType Tryz.prog.depth T=false) {a b:List Value} (ha:a.length=n) (hb:b.length=n) (ga:G a) (gb:G b)
include h hd hg ha hb ga gb
omit hg in
theorem equal_ty (w:Wd):(Op.equal T (.agg a.toArray) (.agg b.toArray)).run PG w = .ok (cdec (a=b)) w:=by
 obtain⟨r,h1,h2⟩:=h.eq d w a b ha hb ga gb;have e:r=cdec (a=b):=by
  unfold cdec
  cases r with
  | true=>simp [h2.1 rfl]
  | false =>
   have:¬ a=b:=fun e=>by have:=h2.2 e;cases this
   simp [this]
 rw [hd] at h1;rw [<- e];exact h1
theorem zte (x y:Operand) (w:Wd):(do eqGuard .neq T x y (.agg a.toArray) (.agg b.toArray);binOp .neq T (.agg a.toArray) (.agg b.toArray)).run PG w = .ok (.bool (!cdec (a=b))) w:=by
 have he:=equal_ty h d hd ha hb ga gb w;have h1:(eqGuard .neq T x y (.agg a.toArray) (.agg b.toArray)).run PG w = .ok () w:=by
  simp only [eqGuard,Ux,Kt,Gr,UY,run_program,Qa,hg,Bool.not_false,Gu,UZ]
 rw [UY,h1];simp only [Qa,binOp,UY,he,UZ]
theorem zlU (x y:Operand) (w:Wd):(do eqGuard .eql T x y (.agg a.toArray) (.agg b.toArray);binOp .eql T (.agg a.toArray) (.agg b.toArray)).run PG w = .ok (.bool (cdec (a=b))) w:=by
 have he:=equal_ty h d hd ha hb ga gb w;have h1:(eqGuard .eql T x y (.agg a.toArray) (.agg b.toArray)).run PG w = .ok () w:=by
  simp only [eqGuard,Ux,Kt,Gr,UY,run_program,Qa,hg,Bool.not_false,Gu,UZ]
 rw [UY,h1];simp only [Qa,binOp,UY,he,UZ]
end
theorem zvw:∃ G,TyEq PG 94 true 2 2 G/\∀ r n,G [.bool r,u8 n]:=by
 refine⟨_,.struct (uf Tryz.underlying94).1 (by kernel_rfl) (fun w=>Tryz.isAgg94 w) (jr (by kernel_rfl) (by kernel_rfl)).1 (by kernel_rfl)
  (by rw [(uf Tryz.underlying94).2];exact .cons (by decide) rfl zul (.cons (by decide) rfl tU8 .nil)),fun r n=>?_⟩
 exact⟨⟨_,rfl⟩,⟨_,rfl⟩,trivial⟩
theorem zvu:∃ G,TyEq PG 96 true 10 3 G/\∀ x,G (qr.enc x):=by
 obtain⟨G,h1,h2⟩:=zvw;refine⟨_,.struct (uf Tryz.underlying96).1 (by kernel_rfl) (fun w=>Tryz.isAgg96 w) (jr (by kernel_rfl) (by kernel_rfl)).1 (by kernel_rfl)
  (by rw [(uf Tryz.underlying96).2];exact .cons (by decide) rfl (tU8.up 1) (.cons (by decide) rfl (tU8.up 1) (.cons (by decide) rfl (tU8.up 1) (.cons (by decide) rfl h1 (.cons (by decide) rfl h1 (.cons (by decide) rfl (tU8.up 1) (.cons (by decide) rfl (tU8.up 1) (.cons (by decide) rfl (tU8.up 1) .nil)))))))),fun x=>?_⟩
 exact⟨⟨_,rfl⟩,⟨_,rfl⟩,⟨_,rfl⟩,h2 _ _,h2 _ _,⟨_,rfl⟩,⟨_,rfl⟩,⟨_,rfl⟩,trivial⟩
theorem zbJ {a b:UInt8} (h:u8 a=u8 b):a=b:=by
 unfold u8 at h;simp only [Value.int.injEq,Gt] at h;exact qV.1 h
theorem zrv {a b:InsD}:qr.enc a=qr.enc b↔a=b:=by
 constructor
 ·intro h;obtain⟨a0,a1,a2,a3,a4,a5,a6,a7,a8,a9⟩:=a;obtain⟨b0,b1,b2,b3,b4,b5,b6,b7,b8,b9⟩:=b;simp only [qr,QN,Gp,Value.bool.injEq] at h;obtain⟨h0,h1,h2,rfl,h4,rfl,h6,h7,h8,h9⟩:=h;rw [zbJ h0,zbJ h1,zbJ h2,zbJ h4,zbJ h6,zbJ h7,zbJ h8,zbJ h9]
 ·exact fun h=>by rw [h]
theorem zrN (x y:Operand) (a b:InsD) (w:Wd):(do eqGuard .eql 96 x y (.agg (qr.enc a).toArray) (.agg (qr.enc b).toArray);binOp .eql 96 (.agg (qr.enc a).toArray) (.agg (qr.enc b).toArray)).run PG w = .ok (.bool (decide (a=b))) w:=by
 obtain⟨G,h,hG⟩:=zvu;rw [zlU h 9997 rfl (by kernel_rfl) rfl rfl (hG a) (hG b) x y w,ze2 zrv]
structure SpV (X:Wd) (g bx:Nat) (x:InsD) (locs after:Nat):Prop where
 c:X.heap[g]?=some (.cells (spC x locs after).toArray 314 (0,0))
 b:X.heap[bx]?=some (.cells #[At0 g] 340 (0,0))
 G:GlobC X
theorem SpV.below {X Y:Wd} {g bx locs after:Nat} {x:InsD} (h:SpV X g bx x locs after) (hb:Bw X Y):SpV Y g bx x locs after:=⟨zb hb h.c,zb hb h.b,h.G.below hb⟩
theorem SpV.cells {X:Wd} {g bx locs after:Nat} {x:InsD} (h:SpV X g bx x locs after):zo X ⟨g,0,none⟩ (spC x locs after):=za h.c
section
variable {g bx locs after:Nat} {x:InsD} {w:Wd}
theorem zrZ (h:SpV w g bx x locs after):CB 243 #[At0 bx] w (.bool (decide (1<=x.op.toNat)&&decide (x.op.toNat<=8))):=by
 refine zD 16 [At0 bx] Tryz.func243 ?_;refine⟨_,zc (za h.b) (i:=0) rfl,_,zc h.cells (i:=0) rfl,biE (fun h1=>?_) fun h1=>?_⟩
 ·have h1:(1:Int)<=x.op.toNat:=dT h1;refine⟨_,zc (za h.b) (i:=0) rfl,_,zc h.cells (i:=0) rfl,rb ?_,Gh _ _⟩;rw [Ut (p:=1<=x.op.toNat) (by omega),Uz,QH];show (x.op.toNat:Int)<=8↔_;omega
 ·have h1:¬ (1:Int)<=x.op.toNat:=dF h1;refine⟨rb ?_,Gh _ _⟩;rw [Uj (p:=1<=x.op.toNat) (by omega)];rfl
theorem zrY (h:SpV w g bx x locs after) (hop:x.op.toNat<=8):CB 244 #[At0 bx] w (.bool (decide (x=zgf x))):=by
 refine zD 9 [At0 bx] Tryz.func244 ?_;have hd:SpV w.drew g bx x locs after:=h.below (Gh _ w).drew;refine DrawE.ord [] [0,1,2,3,4,5,6,7] (by kernel_rfl) ⟨_,zc (za hd.b) (i:=0) rfl,qr.enc x,rfl,zM (n:=0) (m:=10) hd.cells,hlt hd.c,_,zc (za hd.b) (i:=0) rfl,cmo (zpo hd.cells (hlt hd.c) hop hd.G) ?_⟩;rintro e V ⟨rfl,hb⟩;exact⟨hb,_,fun w=>zrN _ _ x (zgf x) w,rfl,(Gh _ w).drew.trans hb⟩
theorem zrX (h:SpV w g bx x locs after):CB 246 #[At0 bx] w (.bool (decide (x.dst.toNat<8))):=by
 refine zD 8 [At0 bx] Tryz.func246 ?_;refine⟨_,zc (za h.b) (i:=0) rfl,_,zc h.cells (i:=1) rfl,rb ?_,Gh _ _⟩;show decide ((x.dst.toNat:Int)<8)=_;rw [QH];omega
theorem zrW (h:SpV w g bx x locs after) (hop:x.op.toNat<=8):CB 247 #[At0 bx] w (.bool (!jm x.op 2||decide (x.loc.toNat<locs))):=by
 refine zD 18 [At0 bx] Tryz.func247 ?_;have hd:SpV w.drew g bx x locs after:=h.below (Gh _ w).drew;refine DrawE.ord [] [0,1,2,3,4,5,6,7,8,9,10,11,12,13,14,15,16] (by kernel_rfl) ⟨_,zc (za hd.b) (i:=0) rfl,cmo (zeU 2 hd.cells hop hd.G) ?_⟩;rintro e _ ⟨rfl,rfl⟩;refine⟨Gh _ _,biE (fun h1=>?_) fun h1=>?_⟩
 ·have h1:(!jm x.op 2)=true:=h1;exact⟨rb (by rw [h1];rfl),(Gh _ w).drew⟩
 ·have h1:(!jm x.op 2)=false:=h1;refine⟨_,zc (za hd.b) (i:=0) rfl,_,zc hd.cells (i:=2) rfl,_,qA _,_,zc (za hd.b) (i:=0) rfl,_,zc hd.cells (i:=10) rfl,rb ?_,(Gh _ w).drew⟩;rw [h1,Uw,QH];omega
theorem zrV (h:SpV w g bx x locs after):CB 249 #[At0 bx] w (.bool (zmf x.ar x.an&&zmf x.br x.bn)):=by
 refine zD 16 [At0 bx] Tryz.func249 ?_;refine⟨_,zc (za h.b) (i:=0) rfl,[.bool x.ar,u8 x.an],rfl,zM (n:=3) (m:=2) h.cells,hlt h.c,cmo (zhA x.ar x.an w) ?_⟩;rintro e V ⟨rfl,hb⟩;have hV:=h.below hb;refine biE (fun h1=>?_) fun h1=>?_
 ·have h1:zmf x.ar x.an=true:=h1;refine⟨_,zc (za hV.b) (i:=0) rfl,[.bool x.br,u8 x.bn],rfl,zM (n:=5) (m:=2) hV.cells,hlt hV.c,cmo (zhA x.br x.bn V) ?_⟩;rintro e U ⟨rfl,hb2⟩;exact⟨rb (by rw [h1,Uz]),(zst hb hb2)⟩
 ·have h1:zmf x.ar x.an=false:=h1;exact⟨rb (by rw [h1,Ul]),hb⟩
theorem zrU (h:SpV w g bx x locs after) (hop:x.op.toNat<=8):CB 253 #[At0 bx] w (.bool (!jm x.op 64||(decide (1<=x.skip.toNat)&&decide (x.skip.toNat<=after)))):=by
 refine zD 26 [At0 bx] Tryz.func253 ?_;have hd:SpV w.drew g bx x locs after:=h.below (Gh _ w).drew;refine DrawE.ord [] [0,1,2,3,4,5,6,7,8,9,10,11,12,13,14,15,16,17,18,19,20,21,22,23,24] (by kernel_rfl) ⟨_,zc (za hd.b) (i:=0) rfl,cmo (zeU 64 hd.cells hop hd.G) ?_⟩;rintro e _ ⟨rfl,rfl⟩;refine⟨Gh _ _,biE (fun h1=>?_) fun h1=>?_⟩
 ·have h1:(!jm x.op 64)=true:=h1;exact⟨rb (by rw [h1];rfl),(Gh _ w).drew⟩
 ·have h1:(!jm x.op 64)=false:=h1;rw [h1,Uw];refine⟨_,zc (za hd.b) (i:=0) rfl,_,zc hd.cells (i:=9) rfl,biE (fun h2=>?_) fun h2=>?_⟩
  ·have h2:(1:Int)<=x.skip.toNat:=dT h2;refine⟨_,zc (za hd.b) (i:=0) rfl,_,zc hd.cells (i:=9) rfl,_,qA _,_,zc (za hd.b) (i:=0) rfl,_,zc hd.cells (i:=11) rfl,rb ?_,(Gh _ w).drew⟩;rw [Ut (p:=1<=x.skip.toNat) (by omega),Uz,QH];omega
  ·have h2:¬ (1:Int)<=x.skip.toNat:=dF h2;refine⟨rb ?_,(Gh _ w).drew⟩;rw [Uj (p:=1<=x.skip.toNat) (by omega)];rfl
end
def zjk (g bx:Nat):List Value:=[.func (.func 243) #[] #[At0 bx],.func (.func 244) #[] #[At0 bx],.func (.func 246) #[] #[At0 bx],
 .func (.func 247) #[] #[At0 bx],.func (.func 249) #[] #[At0 bx],.func (.func 251) #[At0 g] #[],.func (.func 252) #[At0 g] #[],
 .func (.func 253) #[] #[At0 bx]]
theorem zrT {g:Nat} {w:Wd}:Calls PG 224 #[At0 g] w fun e w'=>e = .returned (.slice (some ⟨w.heap.size+1,0,none⟩) 8 8) /\
  w'.heap[w.heap.size]?=some (.cells #[At0 g] 340 (0,0))/\w'.heap[w.heap.size+1]?=some (.cells (zjk g w.heap.size).toArray 41 (0,0))/\w'.heap.size=w.heap.size+2/\Bw w w':=by
 refine zD 14 [At0 g] Tryz.func224 ?_;obtain⟨W,hW⟩:=nm (w.alloc (.cells #[At0 g] 340));have hb:W.heap[w.heap.size]?=some (.cells #[At0 g] 340 (0,0)):=by rw [hW];exact zA w _
 have hs:W.heap.size=w.heap.size+1:=by rw [hW,wz]
 have hbb:Bw w W:=by rw [hW];exact (zba w _)
 refine⟨_,zc (za (zA w _)) (i:=0) rfl,_,zc (za (zA w _)) (i:=0) rfl,⟨by decide,by decide,rfl⟩,zjk g w.heap.size,rfl,?_⟩;have hs1:=wz w (.cells #[At0 g] 340);refine⟨?_,?_,?_,?_,?_⟩
 ·show Ending.returned (.slice (some ⟨(w.alloc (.cells #[At0 g] 340)).heap.size,0,none⟩) 8 8)=_;rw [hs1]
 ·exact qy _ (zA w _)
 ·rw [<- hs1];exact zA _ _
 ·rw [wz,wz]
 ·exact ((zba w _)).alloc (by simp) _
structure ThI (X:Wd) (L:Nat) (x:InsD) (locs after:Nat):Prop where
 c:X.heap[L]?=some (.cells (spC x locs after).toArray 314 (0,0))
 b:X.heap[L+1]?=some (.cells #[At0 L] 340 (0,0))
 s:X.heap[L+2]?=some (.cells (zjk L (L+1)).toArray 41 (0,0))
theorem ThI.below {X Y:Wd} {L:Nat} {x:InsD} {locs after:Nat} (h:ThI X L x locs after) (hb:Bw X Y):ThI Y L x locs after:=⟨zb hb h.c,zb hb h.b,zb hb h.s⟩
def zrw:InsD:=⟨0,0,0,false,0,false,0,0,0,0⟩
theorem zkW {l:List Bool}:∀ {n:Nat},(∀ j,j<n->l[j]?=some true)->n=l.length->l.all id=true:=by
 intro n h e;rw [Qk];intro b hb;obtain⟨j,hj,rfl⟩:=Kh hb;have:=h j (by omega);rw [gE hj] at this;exact Ug this
theorem zqs {l:List Bool} {j:Nat} (h:l[j]?=some false):l.all id=false:=by
 rw [KM];obtain⟨hj,e⟩:=Jq.1 h;exact⟨l[j],gM _,by rw [e];decide⟩
theorem zdl {l:List InsD} {k locs:Nat} (hkl:k<l.length) {i:Nat} (h:(qK l[k] locs (l.length-1-k))[i]?=some false) {w X:Wd} (hb:Bw w X) :
  Ending.returned (.bool false) = .returned (.bool (jy l locs))/\Bw w X:=by
 refine⟨rb ?_,hb⟩;symm;unfold jy;rw [Bool.and_eq_false_iff];refine .inr ?_;rw [KM];refine⟨k,Uq.2 hkl,?_⟩;rw [gE hkl];show ¬ zpJ l[k] locs (l.length-1-k)=true;unfold zpJ;rw [zqs h];simp
theorem zk0 {p:OA} {cap locs:Nat} {l:List InsD} {w:Wd} (hl:SlR qr w p l) (hG:GlobC w) (hn:l.length<=140737488351232) :
  CB 189 #[.slice p l.length cap,i64 locs] w (.bool (jy l locs)):=by
 refine zD 43 [.slice p l.length cap,i64 locs] Tryz.func189 ?_;obtain⟨L,hL⟩:=nm (w.heap.size);refine biE (fun h=>?_) fun h=>?_
 ·have h:(12:Int)<l.length:=dT h;exact⟨rb (by unfold jy;rw [Uj (by omega)];rfl),Gh _ _⟩
 have h12:¬ (12:Int)<l.length:=dF h;refine⟨spC zrw locs 0,rfl,zk (X:=w) (v := .agg (spC zrw locs 0).toArray) zvP rfl rfl rfl fun V hbV fV sV=>cmo zrT ?_⟩;rintro e W0 ⟨rfl,hbx,hsl,hsz,hb0⟩;rw [sV,<- hL] at hsz hbx hsl;have hI0:ThI W0 L zrw locs 0:=⟨hL▸zb hb0 fV,hbx,hsl⟩;have hbw:Bw w W0:=zst hbV hb0;have p1:some (Value.pointer (some ⟨w.heap.size,0,none⟩))=some (At0 L):=by rw [hL]
 have p2:some (Value.slice (some ⟨V.heap.size+1,0,none⟩) 8 8)=some (Value.slice (some ⟨L+2,0,none⟩) 8 8):=by rw [sV,hL]
 clear hbx hsl fV sV hb0 hbV;refine⟨Nat,fun k=>⟨[(0,.slice p l.length cap),(1,i64 locs),(5,At0 L),(6,.slice (some ⟨L+2,0,none⟩) 8 8),(17,.slice p l.length cap),(18,i64 l.length),(19,i64 (k:Nat))],[]⟩,
  fun k X=>k<=l.length/\(∀ i,i<k->∀ x,l[i]?=some x->zpJ x locs (l.length-1-i)=true)/\(∃ x aft,ThI X L x locs aft)/\Bw w X,fun k=>l.length-k,0,
  ⟨.cons rfl (.cons rfl (.cons p1 (.cons p2 (.cons rfl (.cons rfl (.cons rfl .nil)))))),rfl⟩,⟨Ge _,fun i hi=>by omega,⟨zrw,0,hI0⟩,hbw⟩,?_⟩
 rintro k X ⟨hk,hdone,⟨x0,a0,hI⟩,hbX⟩;dsimp only at hk hdone ⊢;refine biE (fun hc=>?_) fun hc=>?_
 ·have hc:(k:Int)<(l.length:Int):=dT hc;have hkl:k<l.length:=by omega
  obtain⟨b,o,rfl,hbl,hat⟩:=hl.at hkl;refine⟨k,rfl,hkl,?_⟩;have hx:=hat k hkl;refine⟨qr.enc l[k],rfl,qT hbX hbl hx,nL hbl hbX.size,zk (X:=X) (v := .agg (qr.enc l[k]).toArray) k96 rfl rfl rfl fun Y hbY fY sY=>⟨qr.enc l[k],rfl,za fY,hlt fY,((l.length-1:Nat):Int),(zi (by omega)).trans (by omega),((l.length-1-k:Nat):Int),(zi (by omega)).trans (by omega),?_⟩⟩;have hY:=hI.below hbY;refine jj k96 hY.c (o:=0) (v := .agg (qr.enc l[k]).toArray) rfl (by show 0+10<=12;omega) rfl fun Z fZ gZ sZ=>jj k3 fZ (o:=11) (v:=i64 (l.length-1-k:Nat)) rfl (by show 11+1<=12;omega) rfl fun U fU gU sU=>?_;have hIU:ThI U L l[k] locs (l.length-1-k):=⟨fU,(gU.block _ (by have:=hlt hY.b;omega) (by simp)).trans ((gZ.block _ (hlt hY.b) (by simp)).trans hY.b),(gU.block _ (by have:=hlt hY.s;omega) (by simp)).trans ((gZ.block _ (hlt hY.s) (by simp)).trans hY.s)⟩;have hbU:Bw w U:=by
   have h1:Bw w Y:=zst hbX hbY;have h2:∀ (A B:Wd),Bw w A->A.grownBy B (some L)->Bw w B:=fun A B ha hg=>ha.trans ⟨hg.os,hg.tape,hg.output,hg.size,fun j hj=>hg.block j (nL hj ha.size) (by simp;omega)⟩;exact h2 _ _ (h2 _ _ h1 gZ) gU
  refine⟨Nat,fun j=>⟨[(0,.slice (some ⟨b,o,none⟩) l.length cap),(1,i64 locs),(5,At0 L),(6,.slice (some ⟨L+2,0,none⟩) 8 8),(17,.slice (some ⟨b,o,none⟩) l.length cap),(18,i64 l.length),(19,i64 (k:Nat)),(32,.slice (some ⟨L+2,0,none⟩) 8 8),(33,i64 8),(34,i64 (j:Nat))],[]⟩,
   fun j X=>j<=8/\(∀ i,i<j->(qK l[k] locs (l.length-1-k))[i]?=some true)/\ThI X L l[k] locs (l.length-1-k)/\Bw w X,fun j=>8-j,0,
   (cvE rfl rfl),⟨Ge _,fun i hi=>by omega,hIU,hbU⟩,?_⟩
  clear hIU hbU;rintro j X2 ⟨hj,hpre,hI2,hb2⟩;dsimp only at hj hpre ⊢;have hG2:GlobC X2:=hG.below hb2;have hS:SpV X2 L (L+1) l[k] locs (l.length-1-k):=⟨hI2.c,hI2.b,hG2⟩;refine biE (fun hc2=>?_) fun hc2=>?_
  ·have hc2:(j:Int)<8:=dT hc2;refine⟨j,rfl,(by omega),?_⟩;have ho:0<j->l[k].op.toNat<=8:=fun h0=>by
    have:=Ug (hpre 0 h0);rw [bAT] at this;exact dT this.2
   have hat2:∀ {v:Value},(zjk L (L+1))[j]?=some v->X2.cell? ⟨L+2,0+j*1,none⟩=some v:=fun hv=>by
    have:=zc (za hI2.s) (i:=j) (by simpa using hv);rw [Gd];exact this
   have hcs:j=0\/j=1\/j=2\/j=3\/j=4\/j=5\/j=6\/j=7:=by omega
   rcases hcs with rfl | rfl | rfl | rfl | rfl | rfl | rfl | rfl
   ·refine⟨_,hat2 rfl,cmo (zrZ hS) ?_⟩;rintro e W ⟨rfl,hbW⟩;have hI3:=hI2.below hbW;refine biE (fun hb=>?_) fun hb=>?_
    ·have hb:(!((qK l[k] locs (l.length-1-k))[0]'(by show 0<8;decide)))=true:=hb;have hb:(qK l[k] locs (l.length-1-k))[0]?=some false:=(by rw [gE (by show 0<8;decide)];exact Gq some (by rw [<- UK ((qK l[k] locs (l.length-1-k))[0]'(by show 0<8;decide)),hb];rfl));exact zdl hkl hb ((zst hb2 hbW))
    ·have hb:(!((qK l[k] locs (l.length-1-k))[0]'(by show 0<8;decide)))=false:=hb;have hb:(qK l[k] locs (l.length-1-k))[0]?=some true:=(by rw [gE (by show 0<8;decide)];exact Gq some (by rw [<- UK ((qK l[k] locs (l.length-1-k))[0]'(by show 0<8;decide)),hb];rfl));refine⟨_,(zi (by omega)).trans rfl,1,(cvE rfl rfl),⟨by omega,fun i hi=>?_,hI3,(zst hb2 hbW)⟩,by decide⟩;by_cases hik:i=0
     ·rw [hik];exact hb
     ·exact hpre i (by omega)
   ·refine⟨_,hat2 rfl,cmo (zrY hS (ho (by omega))) ?_⟩;rintro e W ⟨rfl,hbW⟩;have hI3:=hI2.below hbW;refine biE (fun hb=>?_) fun hb=>?_
    ·have hb:(!((qK l[k] locs (l.length-1-k))[1]'(by show 1<8;decide)))=true:=hb;have hb:(qK l[k] locs (l.length-1-k))[1]?=some false:=(by rw [gE (by show 1<8;decide)];exact Gq some (by rw [<- UK ((qK l[k] locs (l.length-1-k))[1]'(by show 1<8;decide)),hb];rfl));exact zdl hkl hb ((zst hb2 hbW))
    ·have hb:(!((qK l[k] locs (l.length-1-k))[1]'(by show 1<8;decide)))=false:=hb;have hb:(qK l[k] locs (l.length-1-k))[1]?=some true:=(by rw [gE (by show 1<8;decide)];exact Gq some (by rw [<- UK ((qK l[k] locs (l.length-1-k))[1]'(by show 1<8;decide)),hb];rfl));refine⟨_,(zi (by omega)).trans rfl,2,(cvE rfl rfl),⟨by omega,fun i hi=>?_,hI3,(zst hb2 hbW)⟩,by decide⟩;by_cases hik:i=1
     ·rw [hik];exact hb
     ·exact hpre i (by omega)
   ·refine⟨_,hat2 rfl,cmo (zrX hS) ?_⟩;rintro e W ⟨rfl,hbW⟩;have hI3:=hI2.below hbW;refine biE (fun hb=>?_) fun hb=>?_
    ·have hb:(!((qK l[k] locs (l.length-1-k))[2]'(by show 2<8;decide)))=true:=hb;have hb:(qK l[k] locs (l.length-1-k))[2]?=some false:=(by rw [gE (by show 2<8;decide)];exact Gq some (by rw [<- UK ((qK l[k] locs (l.length-1-k))[2]'(by show 2<8;decide)),hb];rfl));exact zdl hkl hb ((zst hb2 hbW))
    ·have hb:(!((qK l[k] locs (l.length-1-k))[2]'(by show 2<8;decide)))=false:=hb;have hb:(qK l[k] locs (l.length-1-k))[2]?=some true:=(by rw [gE (by show 2<8;decide)];exact Gq some (by rw [<- UK ((qK l[k] locs (l.length-1-k))[2]'(by show 2<8;decide)),hb];rfl));refine⟨_,(zi (by omega)).trans rfl,3,(cvE rfl rfl),⟨by omega,fun i hi=>?_,hI3,(zst hb2 hbW)⟩,by decide⟩;by_cases hik:i=2
     ·rw [hik];exact hb
     ·exact hpre i (by omega)
   ·refine⟨_,hat2 rfl,cmo (zrW hS (ho (by omega))) ?_⟩;rintro e W ⟨rfl,hbW⟩;have hI3:=hI2.below hbW;refine biE (fun hb=>?_) fun hb=>?_
    ·have hb:(!((qK l[k] locs (l.length-1-k))[3]'(by show 3<8;decide)))=true:=hb;have hb:(qK l[k] locs (l.length-1-k))[3]?=some false:=(by rw [gE (by show 3<8;decide)];exact Gq some (by rw [<- UK ((qK l[k] locs (l.length-1-k))[3]'(by show 3<8;decide)),hb];rfl));exact zdl hkl hb ((zst hb2 hbW))
    ·have hb:(!((qK l[k] locs (l.length-1-k))[3]'(by show 3<8;decide)))=false:=hb;have hb:(qK l[k] locs (l.length-1-k))[3]?=some true:=(by rw [gE (by show 3<8;decide)];exact Gq some (by rw [<- UK ((qK l[k] locs (l.length-1-k))[3]'(by show 3<8;decide)),hb];rfl));refine⟨_,(zi (by omega)).trans rfl,4,(cvE rfl rfl),⟨by omega,fun i hi=>?_,hI3,(zst hb2 hbW)⟩,by decide⟩;by_cases hik:i=3
     ·rw [hik];exact hb
     ·exact hpre i (by omega)
   ·refine⟨_,hat2 rfl,cmo (zrV hS) ?_⟩;rintro e W ⟨rfl,hbW⟩;have hI3:=hI2.below hbW;refine biE (fun hb=>?_) fun hb=>?_
    ·have hb:(!((qK l[k] locs (l.length-1-k))[4]'(by show 4<8;decide)))=true:=hb;have hb:(qK l[k] locs (l.length-1-k))[4]?=some false:=(by rw [gE (by show 4<8;decide)];exact Gq some (by rw [<- UK ((qK l[k] locs (l.length-1-k))[4]'(by show 4<8;decide)),hb];rfl));exact zdl hkl hb ((zst hb2 hbW))
    ·have hb:(!((qK l[k] locs (l.length-1-k))[4]'(by show 4<8;decide)))=false:=hb;have hb:(qK l[k] locs (l.length-1-k))[4]?=some true:=(by rw [gE (by show 4<8;decide)];exact Gq some (by rw [<- UK ((qK l[k] locs (l.length-1-k))[4]'(by show 4<8;decide)),hb];rfl));refine⟨_,(zi (by omega)).trans rfl,5,(cvE rfl rfl),⟨by omega,fun i hi=>?_,hI3,(zst hb2 hbW)⟩,by decide⟩;by_cases hik:i=4
     ·rw [hik];exact hb
     ·exact hpre i (by omega)
   ·refine⟨_,hat2 rfl,cmo (zkj hS.cells) ?_⟩;rintro e _ ⟨rfl,rfl⟩;have hbW:Bw X2 X2:=Gh _ _;have hI3:=hI2;refine biE (fun hb=>?_) fun hb=>?_
    ·have hb:(!((qK l[k] locs (l.length-1-k))[5]'(by show 5<8;decide)))=true:=hb;have hb:(qK l[k] locs (l.length-1-k))[5]?=some false:=(by rw [gE (by show 5<8;decide)];exact Gq some (by rw [<- UK ((qK l[k] locs (l.length-1-k))[5]'(by show 5<8;decide)),hb];rfl));exact zdl hkl hb ((zst hb2 hbW))
    ·have hb:(!((qK l[k] locs (l.length-1-k))[5]'(by show 5<8;decide)))=false:=hb;have hb:(qK l[k] locs (l.length-1-k))[5]?=some true:=(by rw [gE (by show 5<8;decide)];exact Gq some (by rw [<- UK ((qK l[k] locs (l.length-1-k))[5]'(by show 5<8;decide)),hb];rfl));refine⟨_,(zi (by omega)).trans rfl,6,(cvE rfl rfl),⟨by omega,fun i hi=>?_,hI3,(zst hb2 hbW)⟩,by decide⟩;by_cases hik:i=5
     ·rw [hik];exact hb
     ·exact hpre i (by omega)
   ·refine⟨_,hat2 rfl,cmo (zn4 hS.cells) ?_⟩;rintro e _ ⟨rfl,rfl⟩;have hbW:Bw X2 X2:=Gh _ _;have hI3:=hI2;refine biE (fun hb=>?_) fun hb=>?_
    ·have hb:(!((qK l[k] locs (l.length-1-k))[6]'(by show 6<8;decide)))=true:=hb;have hb:(qK l[k] locs (l.length-1-k))[6]?=some false:=(by rw [gE (by show 6<8;decide)];exact Gq some (by rw [<- UK ((qK l[k] locs (l.length-1-k))[6]'(by show 6<8;decide)),hb];rfl));exact zdl hkl hb ((zst hb2 hbW))
    ·have hb:(!((qK l[k] locs (l.length-1-k))[6]'(by show 6<8;decide)))=false:=hb;have hb:(qK l[k] locs (l.length-1-k))[6]?=some true:=(by rw [gE (by show 6<8;decide)];exact Gq some (by rw [<- UK ((qK l[k] locs (l.length-1-k))[6]'(by show 6<8;decide)),hb];rfl));refine⟨_,(zi (by omega)).trans rfl,7,(cvE rfl rfl),⟨by omega,fun i hi=>?_,hI3,(zst hb2 hbW)⟩,by decide⟩;by_cases hik:i=6
     ·rw [hik];exact hb
     ·exact hpre i (by omega)
   ·refine⟨_,hat2 rfl,cmo (zrU hS (ho (by omega))) ?_⟩;rintro e W ⟨rfl,hbW⟩;have hI3:=hI2.below hbW;refine biE (fun hb=>?_) fun hb=>?_
    ·have hb:(!((qK l[k] locs (l.length-1-k))[7]'(by show 7<8;decide)))=true:=hb;have hb:(qK l[k] locs (l.length-1-k))[7]?=some false:=(by rw [gE (by show 7<8;decide)];exact Gq some (by rw [<- UK ((qK l[k] locs (l.length-1-k))[7]'(by show 7<8;decide)),hb];rfl));exact zdl hkl hb ((zst hb2 hbW))
    ·have hb:(!((qK l[k] locs (l.length-1-k))[7]'(by show 7<8;decide)))=false:=hb;have hb:(qK l[k] locs (l.length-1-k))[7]?=some true:=(by rw [gE (by show 7<8;decide)];exact Gq some (by rw [<- UK ((qK l[k] locs (l.length-1-k))[7]'(by show 7<8;decide)),hb];rfl));refine⟨_,(zi (by omega)).trans rfl,8,(cvE rfl rfl),⟨by omega,fun i hi=>?_,hI3,(zst hb2 hbW)⟩,by decide⟩;by_cases hik:i=7
     ·rw [hik];exact hb
     ·exact hpre i (by omega)
  ·have hc2:¬ (j:Int)<8:=dF hc2;obtain rfl:j=8:=by omega
   have hok:zpJ l[k] locs (l.length-1-k)=true:=zkW hpre rfl;refine nxI (by omega) ⟨k+1,(cvE rfl rfl),⟨hkl,fun i hi x hlx=>?_,⟨_,_,hI2⟩,hb2⟩,zdc (by omega)⟩;by_cases hik:i=k
   ·subst hik;rw [gE hkl] at hlx;rw [<- Ug hlx];exact hok
   ·exact hdone i (by omega) x hlx
 ·have hc:¬ (k:Int)<(l.length:Int):=dF hc;obtain rfl:k=l.length:=by omega
  refine⟨rb ?_,hbX⟩;unfold jy;rw [Ut (by omega),Uz,Eq.comm,Qk];intro i hi;have hi:i<l.length:=Uq.1 hi;rw [gE hi];exact hdone i hi _ (gE hi)
end Go.Proofs.YtnadlhpkpnfmbaaGreatDoor
